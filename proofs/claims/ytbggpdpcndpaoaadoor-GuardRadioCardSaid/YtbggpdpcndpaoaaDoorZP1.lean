/- Contracts: the code computes its model (part 1). -/
import Derived.Test.YtbggpdpcndpaoaaDoorZT
import Derived.Test.YtbggpdpcndpaoaaDoorSh2
import Derived.Test.YtbggpdpcndpaoaaDoorXQ
set_option linter.unusedVariables false
set_option linter.unusedSimpArgs false
namespace Go.Proofs.YtbggpdpcndpaoaaDoor
open Go.RowKit Go.Fp

open Go.Fp renaming t_mv → M, t_as → As, t_st → Ts, t_do → Do, t_ne → Te, t_nil → Tn, t_no → No, t_yes → Ys, t_bool → Tb, t_callG → Tg, t_resp → Tr, c_sr → Cr, c_seq → Cs, c_region → Cg, c_cond → Cc, c_block → Cb, c_ret → Ct, c_skip → Ck, c_exit → Ce, c_join → Cj, x_then_normal → Xn, x_then_ret → Xr, x_then_exit → Xe, x_block_ret → Xb, x_block_normal → Xm, x_block_out → Xo, x_block_on → Xi, x_pullb → Xp, E_st → Es, E_s0 → E0, E_yes → Ey, E_y0 → Yz, E_no → En, E_in → Ei, E_il → El, E_out → Eo, D_all → Da, D_done → Dd, D_drawI → Di, R_do → Rd2, R_nil → Rn, R_callGl → Rg, st_load → sL, st_loadD → sD, st_field → sF, st_nil → sN, st_len → sE, st_move → sM, st_assign → sA, st_pick_t → pT, st_pick_f → pF, st_index_old → sI, st_load_old → sO, st_add → sa, st_sub → sb, st_lss_t → lT, st_lss_f → lF, st_eql_t → eT, st_eql_f → eF, st_not → sn2, st_build → sB, u_box → uB, u_alloc → uA, u_store → uS, u_storeN → uN, u_callW0 → uW, u_putOS → uP, u_appOS → uQ, fn_enterG → fE, bindS → bS, some1 → o1, idx_some → iS, sub_skip → ss, sub_app → sp, chk_some → kS, notT → nt, notF → nf, mem_c → mc, mem_n → mn, st_eql → q1, st_neq → q2, st_lss → q3, st_leq → q4, st_geq → q6
set_option maxRecDepth 20000 in
theorem cStringsliteIndexByte (b : Base) (R : Hp) (a : ByteArray) (c : Int) (d : Int) (hm : mStringsliteIndexByte a c = some d) :
    CallsG Tryd.prog 57 [.string (a), .int .u8 (c)] b (R) (fun v b' hp' => iv d = v ∧ R = hp') := by
 refine fE 8 Tryd.func57 rfl Tryd.ntmps57 rfl ?_
 unfold mStringsliteIndexByte at hm
 refine Cr<|As rfl rfl<|Te<|Cr<|M rfl rfl<|M rfl rfl<|Ts rfl (st_extern ext68_1 ext68_2 ext68_3 ext68_4 ext68_5 rfl (run_sFirst _ _))<|As rfl rfl<|Te<|Ct ?_
 obtain rfl := o1 hm
 exact rM (rs := [.tmp 4]) (vs := [iv ((sFirst a c))]) ⟨rfl, trivial⟩ ⟨rfl, rfl⟩ (.refl _) lr

set_option maxRecDepth 20000 in
theorem cStringsliteIndex (b : Base) (R : Hp) (a : ByteArray) (c : ByteArray) (j : Int) (hm : mStringsliteIndex a c = some j) :
    CallsG Tryd.prog 48 [.string (a), .string (c)] b (R) (fun v b' hp' => iv j = v ∧ R = hp') := by
 refine fE 143 Tryd.func48 rfl Tryd.ntmps48 rfl ?_
 unfold mStringsliteIndex at hm
 refine Cr<|As rfl rfl<|Te<|Cr<|M rfl rfl<|Ts rfl (st_slen rfl str9)<|As rfl rfl<|Te<|Cs<|Cb ?_
 obtain ⟨m, n, o⟩ := bS hm
 refine Cj (fun k e' hp' => [(0, .string (a)), (1, .string (c)), (5, iv ((c.size : Int))), (16, bv m)] = e' ∧ R = hp' ∧ b.Le k) ?_ ?_
 have hm := n
 refine Cg<|M rfl rfl ?_
 refine Tb rfl (q1 rfl rfl) (fun d => ?_) (fun d => ?_)
 rw [if_pos d] at hm
 refine M rfl rfl<|No 19 rfl rfl rfl rfl rfl<|No 19 rfl rfl rfl rfl rfl<|No 19 rfl rfl rfl rfl rfl<|Ts rfl (pT rfl rfl)<|As rfl rfl<|Tn ?_
 obtain rfl := o1 hm
 exact xJ ⟨rfl, rfl, lr⟩ (.refl _)
 rw [if_neg d] at hm
 refine M rfl rfl<|Ys 19 rfl rfl rfl<|M rfl rfl<|Ys 19 rfl rfl rfl<|M rfl rfl<|Ys 19 rfl rfl rfl<|Ts rfl (st_seql rfl rfl)<|Ts rfl (pF rfl rfl)<|As rfl rfl<|Tn ?_
 obtain rfl := o1 hm
 exact xJ ⟨rfl, rfl, lr⟩ (.refl _)
 rintro k _ _ ⟨rfl, rfl, e⟩
 have hm := o
 refine Cc _ rfl (fun f => ?_) (fun f => ?_)
 rw [if_pos f] at hm
 refine Cr<|As rfl rfl<|Te<|Ct<|Xb<|Xr ?_
 obtain rfl := o1 hm
 exact rM (rs := [.tmp 4]) (vs := [iv 0]) ⟨rfl, trivial⟩ ⟨rfl, rfl⟩ (.refl _) e
 rw [if_neg (fun hh => Bool.noConfusion (hh.symm.trans f))] at hm
 refine Cr<|M rfl rfl<|Ts rfl (q1 rfl rfl)<|As rfl rfl<|Te ?_
 refine Cc _ rfl (fun g => ?_) (fun g => ?_)
 rw [if_pos (of_decide_eq_true g)] at hm
 refine Cr<|M rfl rfl<|M rfl rfl ?_
 obtain ⟨p, q, hm⟩ := bS hm
 refine Ts rfl (st_sidx rfl rfl q str9) ?_
 obtain ⟨l, r, hm⟩ := bS hm
 refine Do rfl (uW _ call57 rfl (fun w ho => cStringsliteIndexByte _ [] a p l r) (fun _ _ _ h => h.2.symm)) ?_
 rintro _ _ ⟨⟨_, rfl, _⟩, rfl⟩
 refine As rfl rfl<|Te<|Ct<|Xb<|Xr ?_
 obtain rfl := o1 hm
 exact rM (rs := [.tmp 4]) (vs := [iv l]) ⟨rfl, trivial⟩ ⟨rfl, rfl⟩ (.refl _) e
 rw [if_neg (of_decide_eq_false g)] at hm
 refine Cr<|M rfl rfl<|M rfl rfl<|Ts rfl (st_slen rfl str9)<|Ts rfl (q6 rfl rfl)<|As rfl rfl<|Te ?_
 refine Cc _ rfl (fun i => ?_) (fun i => ?_)
 rw [if_pos (of_decide_eq_true i)] at hm
 refine Cr<|As rfl rfl<|Te<|Ct<|Xb<|Xr ?_
 obtain rfl := o1 hm
 exact rM (rs := [.tmp 4]) (vs := [iv ((-1))]) ⟨rfl, trivial⟩ ⟨rfl, rfl⟩ (.refl _) e
 rw [if_neg (of_decide_eq_false i)] at hm
 refine Cr<|M rfl rfl ?_
 cases hm

set_option maxRecDepth 20000 in
theorem cStringsIndex (b : Base) (R : Hp) (a : ByteArray) (c : ByteArray) (d : Int) (hm : mStringsIndex a c = some d) :
    CallsG Tryd.prog 40 [.string (a), .string (c)] b (R) (fun v b' hp' => iv d = v ∧ R = hp') := by
 refine fE 8 Tryd.func40 rfl Tryd.ntmps40 rfl ?_
 unfold mStringsIndex at hm
 refine Cr<|As rfl rfl<|Te<|Cr<|M rfl rfl<|M rfl rfl ?_
 obtain ⟨e, f, hm⟩ := bS hm
 refine Do rfl (uW _ call48 rfl (fun w ho => cStringsliteIndex _ [] a c e f) (fun _ _ _ h => h.2.symm)) ?_
 rintro _ _ ⟨⟨_, rfl, _⟩, rfl⟩
 refine As rfl rfl<|Te<|Ct ?_
 obtain rfl := o1 hm
 exact rM (rs := [.tmp 4]) (vs := [iv e]) ⟨rfl, trivial⟩ ⟨rfl, rfl⟩ (.refl _) lr

set_option maxRecDepth 20000 in
theorem cStringsCount (b : Base) (R : Hp) (c : ByteArray) (a : ByteArray) (l : Int) (hm : mStringsCount c a = some l) :
    CallsG Tryd.prog 39 [.string (c), .string (a)] b (R) (fun v b' hp' => iv l = v ∧ R = hp') := by
 refine fE 34 Tryd.func39 rfl Tryd.ntmps39 rfl ?_
 unfold mStringsCount at hm
 refine Cr<|As rfl rfl<|Te<|Cs<|Cr<|M rfl rfl<|Ts rfl (st_slen rfl str9)<|Ts rfl (q1 rfl rfl)<|Te ?_
 refine Cc _ rfl (fun d => ?_) (fun d => ?_)
 rw [if_pos (of_decide_eq_true d)] at hm
 refine Cr<|M rfl rfl ?_
 cases hm
 rw [if_neg (of_decide_eq_false d)] at hm
 refine Ck<|Xn<|Cs<|Cr<|M rfl rfl<|Ts rfl (st_slen rfl str9)<|Ts rfl (q1 rfl rfl)<|Te ?_
 refine Cc _ rfl (fun e => ?_) (fun e => ?_)
 rw [if_pos (of_decide_eq_true e)] at hm
 refine Cr<|M rfl rfl<|M rfl rfl ?_
 obtain ⟨p, q, hm⟩ := bS hm
 refine Ts rfl (st_sidx rfl rfl q str9)<|Ts rfl (st_extern ext47_1 ext47_2 ext47_3 ext47_4 ext47_5 rfl (run_sCount _ _))<|As rfl rfl<|Te<|Ct<|Xr ?_
 obtain rfl := o1 hm
 exact rM (rs := [.tmp 4]) (vs := [iv ((sCount c p))]) ⟨rfl, trivial⟩ ⟨rfl, rfl⟩ (.refl _) lr
 rw [if_neg (of_decide_eq_false e)] at hm
 refine Ck<|Xn<|Cr<|As rfl rfl<|Te<|Cb<|cL (unc2 fun f g => fun m e' hp' => [(0, .string (f)), (1, .string (a)), (5, iv g)] = e' ∧ R = hp' ∧ b.Le m) hm ⟨rfl, rfl, lr⟩ (.refl _) ?_
 rintro ⟨f, g⟩ m _ _ x ⟨rfl, rfl, n⟩ o r
 unfold mStringsCount_L40 at o
 have hm := (unc2E o)
 refine Cb<|Cr<|M rfl rfl<|M rfl rfl ?_
 obtain ⟨s, t, hm⟩ := bS hm
 refine Do rfl (uW _ call40 rfl (fun w ho => cStringsIndex _ [] f a s t) (fun _ _ _ h => h.2.symm)) ?_
 rintro _ _ ⟨⟨_, rfl, _⟩, rfl⟩
 refine As rfl rfl<|Te<|Cs<|Cr<|M rfl rfl<|Ts rfl (q1 rfl rfl)<|Te ?_
 refine Cc _ rfl (fun i => ?_) (fun i => ?_)
 rw [if_pos (of_decide_eq_true i)] at hm
 refine Cr<|M rfl rfl<|As rfl rfl<|Te<|Ct<|Xr<|Xb<|Xr<|Xb ?_
 have hm := congrArg some (r _ (Option.some.inj hm).symm)
 obtain rfl := o1 hm
 exact rM (rs := [.tmp 4]) (vs := [iv g]) ⟨rfl, trivial⟩ ⟨rfl, rfl⟩ (.refl _) n
 rw [if_neg (of_decide_eq_false i)] at hm
 refine Ck<|Xn<|Cr<|M rfl rfl ?_
 obtain ⟨_, j, hm⟩ := bS hm
 have j := (kS j).2
 refine Ts rfl (sa rfl rfl j)<|As rfl rfl<|Te<|Cg<|M rfl rfl<|M rfl rfl<|M rfl rfl<|Ts rfl (st_slen rfl str9) ?_
 obtain ⟨_, k, hm⟩ := bS hm
 have k := (kS k).2
 refine Ts rfl (sa rfl rfl k) ?_
 obtain ⟨y, u, hm⟩ := bS hm
 refine Ts rfl (st_scut rfl (.inr ⟨_, _, rfl, rfl⟩) (.inl ⟨rfl, rfl⟩) u str9)<|As rfl rfl<|Tn<|Xm ?_
 exact xM hm ⟨rfl, rfl, (n)⟩ (.refl _)

set_option maxRecDepth 20000 in
theorem cStringsGenSplit (b : Base) (R : Hp) (g : ByteArray) (d : ByteArray) (n : Int) (V : Int) (o : (List ByteArray)) (hm : mStringsGenSplit g d n V = some o) :
    CallsG Tryd.prog 33 [.string (g), .string (d), iv n, iv V] b (R) (fun v b' hp' => ∃ (W : OA), ∃ (X : Nat), ∃ (Y : Hp), sv W o X = v ∧ (Y ++ R) = hp' ∧ OS 9 (OT.fr RT.str) b'.w (sv W o X) o Y) := by
 refine fE 66 Tryd.func33 rfl Tryd.ntmps33 rfl ?_
 unfold mStringsGenSplit at hm
 refine Cr<|As rfl rfl<|Te<|Cs<|Cr<|M rfl rfl<|Ts rfl (q1 rfl rfl)<|Te ?_
 refine Cc _ rfl (fun s => ?_) (fun s => ?_)
 rw [if_pos (of_decide_eq_true s)] at hm
 refine Cr<|As rfl rfl<|Te<|Ct<|Xr ?_
 obtain rfl := o1 hm
 exact rM (rs := [.tmp 8]) (vs := [sn]) ⟨rfl, trivial⟩ ⟨none, 0, [], rfl, rfl, OS.nil⟩ (.refl _) lr
 rw [if_neg (of_decide_eq_false s)] at hm
 refine Ck<|Xn<|Cs<|Cr<|M rfl rfl<|Ts rfl (st_seql rfl rfl)<|Te ?_
 refine Cc _ rfl (fun t => ?_) (fun t => ?_)
 rw [if_pos t] at hm
 refine Cr<|M rfl rfl<|M rfl rfl ?_
 cases hm
 rw [if_neg (fun hh => Bool.noConfusion (hh.symm.trans t))] at hm
 refine Ck<|Xn ?_
 obtain ⟨Z, ao, aq⟩ := bS hm
 refine Cj (fun p e' hp' => [(0, .string (g)), (1, .string (d)), (2, iv n), (3, iv Z)] = e' ∧ R = hp' ∧ b.Le p) ?_ ?_
 have hm := ao
 refine Cr<|M rfl rfl<|Ts rfl (q3 rfl rfl)<|Te ?_
 refine Cc _ rfl (fun u => ?_) (fun u => ?_)
 rw [if_pos (of_decide_eq_true u)] at hm
 refine Cg<|M rfl rfl<|M rfl rfl ?_
 obtain ⟨ar, au, hm⟩ := bS hm
 refine Do rfl (uW _ call39 rfl (fun w ho => cStringsCount _ [] g d ar au) (fun _ _ _ h => h.2.symm)) ?_
 rintro _ _ ⟨⟨_, rfl, _⟩, rfl⟩
 obtain ⟨_, x, hm⟩ := bS hm
 have x := (kS x).2
 refine Ts rfl (sa rfl rfl x)<|As rfl rfl<|Tn ?_
 obtain rfl := o1 hm
 exact xJ ⟨rfl, rfl, lr⟩ (.refl _)
 rw [if_neg (of_decide_eq_false u)] at hm
 refine Ck ?_
 obtain rfl := o1 hm
 exact xJ ⟨rfl, rfl, lr⟩ (.refl _)
 rintro p _ _ ⟨rfl, rfl, av⟩
 have hm := aq
 refine Cr<|M rfl rfl<|M rfl rfl<|Ts rfl (st_slen rfl str9) ?_
 obtain ⟨_, y, hm⟩ := bS hm
 have y := (kS y).2
 refine Ts rfl (sa rfl rfl y)<|Ts rfl (st_min rfl rfl)<|As rfl rfl<|Te<|Cr<|M rfl rfl ?_
 obtain ⟨z, i, hm⟩ := bS hm
 have i := mkLen_some i
 refine Do rfl (u_mkOS (r := RT.str) [] R [.string (ByteArray.empty)] ByteArray.empty z rfl i.1 rfl rfl sl57 inf9 rfl rfl rfl (by decide) rfl i.2.1 i.2.2) ?_
 rintro _ _ ⟨aw, rfl, aa⟩
 obtain ⟨c, a, rfl, _⟩ := aa.form
 refine As rfl rfl<|Te<|Cr<|M rfl rfl ?_
 obtain ⟨_, A, hm⟩ := bS hm
 have A := (kS A).2
 refine Ts rfl (sb rfl rfl A)<|As rfl rfl<|Te<|Cr<|As rfl rfl<|Te ?_
 obtain ⟨⟨j, B, e⟩, ax, ay⟩ := bS hm
 refine Cj (fun C e' hp' => ∃ (D : Hp), [(0, .string (j)), (9, sv c e a), (10, iv B)] = e' ∧ (D ++ R) = hp' ∧ p.Le C ∧ OS 9 (OT.fr RT.str) C.w (sv c e a) e D ∧ e.length = z) ?_ ?_
 have hm := ax
 refine Cb<|cL (unc3 fun E F f => fun G e' hp' => ∃ (k : Hp), [(0, .string (E)), (1, .string (d)), (2, iv n), (3, iv ((min Z ((g.size : Int) + 1)) - 1)), (9, sv c f a), (10, iv F)] = e' ∧ (k ++ R) = hp' ∧ p.Le G ∧ OS 9 (OT.fr RT.str) G.w (sv c f a) f k ∧ f.length = z) hm ⟨aw, rfl, rfl, lr, aa, List.length_replicate⟩ (.refl _) ?_
 rintro ⟨E, F, f⟩ G _ _ aX ⟨k, rfl, rfl, H, q, I⟩ ab ac
 unfold mStringsGenSplit_L419 at ab
 have hm := (unc3E ab)
 refine Cs<|Cr<|M rfl rfl<|M rfl rfl<|Ts rfl (q3 rfl rfl)<|Te ?_
 refine Cc _ rfl (fun J => ?_) (fun J => ?_)
 rw [if_pos (of_decide_eq_true J)] at hm
 refine Ck<|Xn<|Cb<|Cr<|M rfl rfl<|M rfl rfl ?_
 obtain ⟨az, aA, hm⟩ := bS hm
 refine Do rfl (uW _ call40 rfl (fun w ho => cStringsIndex _ [] E d az aA) (fun _ _ _ h => h.2.symm)) ?_
 rintro _ _ ⟨⟨_, rfl, _⟩, rfl⟩
 refine As rfl rfl<|Te<|Cs<|Cr<|M rfl rfl<|Ts rfl (q3 rfl rfl)<|Te ?_
 refine Cc _ rfl (fun K => ?_) (fun K => ?_)
 rw [if_pos (of_decide_eq_true K)] at hm
 refine Ce<|Xe<|Xi rfl<|Xe<|Xo ?_
 have hm := congrArg some (ac _ (Option.some.inj hm).symm)
 obtain ⟨rfl, rfl, rfl⟩ := some3 hm
 exact xJ ⟨k, rfl, rfl, H, q, I⟩ (.refl _)
 rw [if_neg (of_decide_eq_false K)] at hm
 refine Ck<|Xn<|Cr<|M rfl rfl<|M rfl rfl<|M rfl rfl<|M rfl rfl<|M rfl rfl ?_
 obtain ⟨_, L, hm⟩ := bS hm
 have L := (kS L).2
 refine Ts rfl (sa rfl rfl L) ?_
 obtain ⟨O, aB, hm⟩ := bS hm
 refine Ts rfl (st_scut rfl (.inl ⟨rfl, rfl⟩) (.inr ⟨_, _, rfl, rfl⟩) aB str9) ?_
 obtain ⟨aY, aC, hm⟩ := bS hm
 obtain ⟨aD, ad, ae⟩ := iS aC
 obtain ⟨aZ, a0, a1, a2, a3, aE, a4, aF, aG, a5, a6⟩ := OS.get (sz := 1) rfl (by decide) q ae
 obtain ⟨rfl, rfl⟩ := aE
 refine Ts rfl (sI aD rfl rfl ad aG aF sl57)<|Do rfl (uP ad (sz := 1) (a' := O) rfl [] R 0 1 [.string (O)] rfl q ae rfl rfl rfl siz9 rfl (mc rfl mn) (fun cs hsj hh => by obtain ⟨rfl, rfl⟩ := hh; exact ⟨by decide, rfl, rfl⟩)) ?_
 rintro _ _ ⟨aH, rfl, aI⟩
 refine Tr 9 rfl (v' := .slice c (put f F O).length a) (by simp only [put_length])<|Te<|Cr<|M rfl rfl<|M rfl rfl<|M rfl rfl<|Ts rfl (st_slen rfl str9) ?_
 obtain ⟨_, S, hm⟩ := bS hm
 have S := (kS S).2
 refine Ts rfl (sa rfl rfl S) ?_
 obtain ⟨a7, aJ, hm⟩ := bS hm
 refine Ts rfl (st_scut rfl (.inr ⟨_, _, rfl, rfl⟩) (.inl ⟨rfl, rfl⟩) aJ str9)<|As rfl rfl<|Te<|Cg<|M rfl rfl ?_
 obtain ⟨_, T, hm⟩ := bS hm
 have T := (kS T).2
 refine Ts rfl (sa rfl rfl T)<|As rfl rfl<|Tn<|Xm ?_
 exact xM hm ⟨aH, rfl, rfl, (H), aI, ((put_length _ _ _).trans I)⟩ (.refl _)
 rw [if_neg (of_decide_eq_false J)] at hm
 refine Ce<|Xe<|Xe<|Xo ?_
 have hm := congrArg some (ac _ (Option.some.inj hm).symm)
 obtain ⟨rfl, rfl, rfl⟩ := some3 hm
 exact xJ ⟨k, rfl, rfl, H, q, I⟩ (.refl _)
 rintro C _ _ ⟨D, rfl, rfl, aK, af, a8⟩
 have hm := (unc3E ay)
 refine Cr<|M rfl rfl<|M rfl rfl<|M rfl rfl ?_
 obtain ⟨a9, aL, hm⟩ := bS hm
 obtain ⟨aM, ag, ah⟩ := iS aL
 obtain ⟨ba, bb, bc, bd, be, aN, bf, aO, aP, bg, bh⟩ := OS.get (sz := 1) rfl (by decide) af ah
 obtain ⟨rfl, rfl⟩ := aN
 refine Ts rfl (sI aM rfl rfl ag aP aO sl57)<|Do rfl (uP ag (sz := 1) (a' := j) rfl [] R 0 1 [.string (j)] rfl af ah rfl rfl rfl siz9 rfl (mc rfl mn) (fun cs hsj hh => by obtain ⟨rfl, rfl⟩ := hh; exact ⟨by decide, rfl, rfl⟩)) ?_
 rintro _ _ ⟨aQ, rfl, ai⟩
 refine Tr 9 rfl (v' := .slice c (put e B j).length a) (by simp only [put_length])<|Te<|Cr<|M rfl rfl<|M rfl rfl ?_
 obtain ⟨_, U, hm⟩ := bS hm
 have U := (kS U).2
 refine Ts rfl (sa rfl rfl U) ?_
 obtain ⟨aR, aS, hm⟩ := bS hm
 obtain ⟨m, aT, bi, aU, aj, ak, al⟩ := cutS_some aS
 have aV := OS.lc ai
 refine Ts rfl (al ▸ st_part (l := put e B j) m aT rfl (.inl ⟨rfl, by omega⟩) (.inr ⟨_, _, _, rfl, rfl, aU⟩) aj ak aV sl57) ?_
 obtain ⟨am, aW, an⟩ := OS.sub (sz := 1) rfl ai aj ak
 rw [← al] at an
 refine t_less [] aQ am R rfl aW<|As rfl rfl<|Te<|Ct ?_
 obtain rfl := o1 hm
 exact rM (rs := [.tmp 8]) (vs := [.slice (subA c a m 1) (aR).length (a - m)]) ⟨rfl, trivial⟩ ⟨(subA c a m 1), (a - m), am, rfl, rfl, an⟩ (.refl _) (av.trans aK)

set_option maxRecDepth 20000 in
theorem cStringsSplit (b : Base) (R : Hp) (c : ByteArray) (d : ByteArray) (a : (List ByteArray)) (hm : mStringsSplit c d = some a) :
    CallsG Tryd.prog 23 [.string (c), .string (d)] b (R) (fun v b' hp' => ∃ (e : OA), ∃ (f : Nat), ∃ (g : Hp), sv e a f = v ∧ (g ++ R) = hp' ∧ OS 9 (OT.fr RT.str) b'.w (sv e a f) a g) := by
 refine fE 8 Tryd.func23 rfl Tryd.ntmps23 rfl ?_
 unfold mStringsSplit at hm
 refine Cr<|As rfl rfl<|Te<|Cr<|M rfl rfl<|M rfl rfl ?_
 obtain ⟨h, l, hm⟩ := bS hm
 refine Tg _ rfl call33 rfl (cStringsGenSplit _ _ c d 0 (-1) h l) ?_
 rintro _ o _ m ⟨i, j, k, rfl, rfl, n⟩
 refine t_in1 [] [] k R rfl<|As rfl rfl<|Te<|Ct ?_
 obtain rfl := o1 hm
 exact rM (rs := [.tmp 4]) (vs := [sv i h j]) ⟨rfl, trivial⟩ ⟨i, j, k, rfl, rfl, n⟩ (.refl _) m

set_option maxRecDepth 20000 in
theorem cStrconvAtoi (b : Base) (R : Hp) (hG : GOn GT b) (a : ByteArray) (c : Int) (d : Bool) (hm : mStrconvAtoi a = some (c, d)) :
    CallsG Tryd.prog 35 [.string (a)] b (R) (fun v b' hp' => ∃ (e : Value), .tuple #[iv c, e] = v ∧ R = hp' ∧ ErrV e d) := by
 unfold mStrconvAtoi at hm
 exact atoi_c hG hm

set_option maxRecDepth 20000 in
theorem cStrconvItoa (b : Base) (R : Hp) (hG : GOn GT b) (a : Int) (c : ByteArray) (hm : mStrconvItoa a = some c) :
    CallsG Tryd.prog 36 [iv a] b (R) (fun v b' hp' => .string (c) = v ∧ R = hp') := by
 unfold mStrconvItoa at hm
 exact itoa_c hG hm

set_option maxRecDepth 20000 in
theorem cStringsliteHasPrefix (b : Base) (R : Hp) (c : ByteArray) (d : ByteArray) (e : Bool) (hm : mStringsliteHasPrefix c d = some e) :
    CallsG Tryd.prog 55 [.string (c), .string (d)] b (R) (fun v b' hp' => bv e = v ∧ R = hp') := by
 refine fE 18 Tryd.func55 rfl Tryd.ntmps55 rfl ?_
 unfold mStringsliteHasPrefix at hm
 refine Cr<|As rfl rfl<|Te ?_
 obtain ⟨f, h, i⟩ := bS hm
 refine Cj (fun g e' hp' => [(4, bv f)] = e' ∧ R = hp' ∧ b.Le g) ?_ ?_
 have hm := h
 refine Cg<|M rfl rfl<|Ts rfl (st_slen rfl str9)<|M rfl rfl<|Ts rfl (st_slen rfl str9) ?_
 refine Tb rfl (q6 rfl rfl) (fun a => ?_) (fun a => ?_)
 rw [if_pos a] at hm
 refine M rfl rfl<|Ys 10 rfl rfl rfl<|M rfl rfl<|Ys 10 rfl rfl rfl<|M rfl rfl<|Ys 10 rfl rfl rfl<|Ts rfl (st_slen rfl str9)<|Ys 10 rfl rfl rfl ?_
 obtain ⟨l, j, hm⟩ := bS hm
 refine Ts rfl (st_scut rfl (.inl ⟨rfl, rfl⟩) (.inr ⟨_, _, rfl, rfl⟩) j str9)<|Ys 10 rfl rfl rfl<|M rfl rfl<|Ys 10 rfl rfl rfl<|Ts rfl (st_seql rfl rfl)<|Ts rfl (pT rfl rfl)<|As rfl rfl<|Tn ?_
 obtain rfl := o1 hm
 exact xJ ⟨rfl, rfl, lr⟩ (.refl _)
 rw [if_neg a] at hm
 refine M rfl rfl<|No 10 rfl rfl rfl rfl rfl<|No 10 rfl rfl rfl rfl rfl<|No 10 rfl rfl rfl rfl rfl<|No 10 rfl rfl rfl rfl rfl<|No 10 rfl rfl rfl rfl rfl<|No 10 rfl rfl rfl rfl rfl<|Ts rfl (pF rfl rfl)<|As rfl rfl<|Tn ?_
 obtain rfl := o1 hm
 exact xJ ⟨rfl, rfl, lr⟩ (.refl _)
 rintro g _ _ ⟨rfl, rfl, k⟩
 have hm := i
 refine Ct ?_
 obtain rfl := o1 hm
 exact rM (rs := [.tmp 4]) (vs := [bv f]) ⟨rfl, trivial⟩ ⟨rfl, rfl⟩ (.refl _) k

set_option maxRecDepth 20000 in
theorem cStringsliteTrimPrefix (b : Base) (R : Hp) (a : ByteArray) (c : ByteArray) (e : ByteArray) (hm : mStringsliteTrimPrefix a c = some e) :
    CallsG Tryd.prog 44 [.string (a), .string (c)] b (R) (fun v b' hp' => .string (e) = v ∧ R = hp') := by
 refine fE 13 Tryd.func44 rfl Tryd.ntmps44 rfl ?_
 unfold mStringsliteTrimPrefix at hm
 refine Cr<|As rfl rfl<|Te<|Cs<|Cr<|M rfl rfl<|M rfl rfl ?_
 obtain ⟨f, g, hm⟩ := bS hm
 refine Do rfl (uW _ call55 rfl (fun w ho => cStringsliteHasPrefix _ [] a c f g) (fun _ _ _ h => h.2.symm)) ?_
 rintro _ _ ⟨⟨_, rfl, _⟩, rfl⟩
 refine Te ?_
 refine Cc _ rfl (fun d => ?_) (fun d => ?_)
 rw [if_pos d] at hm
 refine Cr<|M rfl rfl<|M rfl rfl<|Ts rfl (st_slen rfl str9) ?_
 obtain ⟨i, j, hm⟩ := bS hm
 refine Ts rfl (st_scut rfl (.inr ⟨_, _, rfl, rfl⟩) (.inl ⟨rfl, rfl⟩) j str9)<|As rfl rfl<|Te<|Ct<|Xr ?_
 obtain rfl := o1 hm
 exact rM (rs := [.tmp 4]) (vs := [.string (i)]) ⟨rfl, trivial⟩ ⟨rfl, rfl⟩ (.refl _) lr
 rw [if_neg (fun hh => Bool.noConfusion (hh.symm.trans d))] at hm
 refine Ck<|Xn<|Cr<|M rfl rfl<|As rfl rfl<|Te<|Ct ?_
 obtain rfl := o1 hm
 exact rM (rs := [.tmp 4]) (vs := [.string (a)]) ⟨rfl, trivial⟩ ⟨rfl, rfl⟩ (.refl _) lr

set_option maxRecDepth 20000 in
theorem cStringsTrimPrefix (b : Base) (R : Hp) (a : ByteArray) (c : ByteArray) (d : ByteArray) (hm : mStringsTrimPrefix a c = some d) :
    CallsG Tryd.prog 37 [.string (a), .string (c)] b (R) (fun v b' hp' => .string (d) = v ∧ R = hp') := by
 refine fE 8 Tryd.func37 rfl Tryd.ntmps37 rfl ?_
 unfold mStringsTrimPrefix at hm
 refine Cr<|As rfl rfl<|Te<|Cr<|M rfl rfl<|M rfl rfl ?_
 obtain ⟨e, f, hm⟩ := bS hm
 refine Do rfl (uW _ call44 rfl (fun w ho => cStringsliteTrimPrefix _ [] a c e f) (fun _ _ _ h => h.2.symm)) ?_
 rintro _ _ ⟨⟨_, rfl, _⟩, rfl⟩
 refine As rfl rfl<|Te<|Ct ?_
 obtain rfl := o1 hm
 exact rM (rs := [.tmp 4]) (vs := [.string (e)]) ⟨rfl, trivial⟩ ⟨rfl, rfl⟩ (.refl _) lr

set_option maxRecDepth 20000 in
theorem cLineNumber (b : Base) (R : Hp) (hG : GOn GT b) (a : ByteArray) (f : Int) (g : Bool) (hm : mLineNumber a = some (f, g)) :
    CallsG Tryd.prog 32 [.string (a)] b (R) (fun v b' hp' => .tuple #[iv f, bv g] = v ∧ R = hp') := by
 refine fE 26 Tryd.func32 rfl Tryd.ntmps32 rfl ?_
 unfold mLineNumber at hm
 refine Cr<|As rfl rfl<|As rfl rfl<|Te<|Cr<|M rfl rfl ?_
 obtain ⟨⟨e, i⟩, n, hm⟩ := bS hm
 have hm := (unc2E hm)
 refine Tg _ rfl call35 rfl (cStrconvAtoi _ _ (hG.le lr) a e i n) ?_
 rintro _ o _ j ⟨y, rfl, rfl, p⟩
 refine M rfl rfl<|Ts rfl (st_extract rfl rfl)<|Ts rfl (st_extract rfl rfl)<|As rfl rfl<|As rfl rfl<|Te ?_
 obtain ⟨k, q, r⟩ := bS hm
 refine Cj (fun l e' hp' => [(2, iv e), (3, bv k)] = e' ∧ R = hp' ∧ o.Le l) ?_ ?_
 have hm := q
 refine Cg<|M rfl rfl<|M rfl rfl<|Ts rfl (st_eqlE rfl p ift73) ?_
 rcases Bool.eq_false_or_eq_true i with c | c
 rw [if_pos c] at hm
 refine Tr 13 rfl (v' := .bool true) (by rw [c] <;> rfl)<|M rfl rfl<|Ys 14 rfl rfl rfl<|M rfl rfl<|Ys 14 rfl rfl rfl ?_
 obtain ⟨m, s, hm⟩ := bS hm
 refine Do rfl (uW _ call36 rfl (fun w ho => cStrconvItoa _ [] ((hG.le j).old ho) e m s) (fun _ _ _ h => h.2.symm)) ?_
 rintro _ _ ⟨⟨_, rfl, _⟩, rfl⟩
 refine Ys 14 rfl rfl rfl<|M rfl rfl<|Ys 14 rfl rfl rfl<|Ts rfl (st_seql rfl rfl) ?_
 rcases Bool.eq_false_or_eq_true (sEq m a) with d | d
 rw [if_pos d] at hm
 refine Tr 18 rfl (v' := .bool true) (by rw [d] <;> rfl)<|Ts rfl (pT rfl rfl)<|M rfl rfl<|Ys 20 rfl rfl rfl<|M rfl rfl<|Ys 20 rfl rfl rfl ?_
 obtain ⟨t, u, hm⟩ := bS hm
 refine Do rfl (uW _ call37 rfl (fun w ho => cStringsTrimPrefix _ [] a (ByteArray.mk #[45]) t u) (fun _ _ _ h => h.2.symm)) ?_
 rintro _ _ ⟨⟨_, rfl, _⟩, rfl⟩
 refine Ys 20 rfl rfl rfl<|Ts rfl (st_slen rfl str9)<|Ys 20 rfl rfl rfl<|Ts rfl (q4 rfl rfl)<|Ts rfl (pT rfl rfl)<|As rfl rfl<|As rfl rfl<|Tn ?_
 obtain rfl := o1 hm
 exact xJ ⟨rfl, rfl, lr⟩ (.refl _)
 rw [if_neg (fun hh => Bool.noConfusion (hh.symm.trans d))] at hm
 refine Tr 18 rfl (v' := .bool false) (by rw [d] <;> rfl)<|Ts rfl (pT rfl rfl)<|M rfl rfl<|No 20 rfl rfl rfl rfl rfl<|No 20 rfl rfl rfl rfl rfl<|No 20 rfl rfl rfl rfl rfl<|No 20 rfl rfl rfl rfl rfl<|Ts rfl (pF rfl rfl)<|As rfl rfl<|As rfl rfl ?_
 refine Tn ?_
 obtain rfl := o1 hm
 exact xJ ⟨rfl, rfl, lr⟩ (.refl _)
 rw [if_neg (fun hh => Bool.noConfusion (hh.symm.trans c))] at hm
 refine Tr 13 rfl (v' := .bool false) (by rw [c] <;> rfl)<|M rfl rfl<|No 14 rfl rfl rfl rfl rfl<|No 14 rfl rfl rfl rfl rfl<|No 14 rfl rfl rfl rfl rfl<|No 14 rfl rfl rfl rfl rfl<|Ts rfl (pF rfl rfl)<|M rfl rfl<|No 20 rfl rfl rfl rfl rfl<|No 20 rfl rfl rfl rfl rfl ?_
 refine No 20 rfl rfl rfl rfl rfl<|No 20 rfl rfl rfl rfl rfl<|Ts rfl (pF rfl rfl)<|As rfl rfl<|As rfl rfl<|Tn ?_
 obtain rfl := o1 hm
 exact xJ ⟨rfl, rfl, lr⟩ (.refl _)
 rintro l _ _ ⟨rfl, rfl, x⟩
 have hm := r
 refine Ct ?_
 obtain ⟨rfl, rfl⟩ := some2 hm
 exact rM (rs := [.tmp 2, .tmp 3]) (vs := [iv e, bv k]) ⟨rfl, ⟨rfl, trivial⟩⟩ ⟨rfl, rfl⟩ (.refl _) (j.trans x)

set_option maxRecDepth 20000 in
theorem cLineNumbers (b : Base) (R : Hp) (hG : GOn GT b) (c : (List ByteArray)) (o : OA) (p : Nat) (u : FZ RT.str b.w o p c) (x : Bool) (k : (List Int)) (hm : mLineNumbers c = some (x, k)) :
    CallsG Tryd.prog 22 [sv o c p] b (R) (fun v b' hp' => ∃ (y : OA), ∃ (z : Nat), ∃ (A : Hp), .tuple #[sv y k z, bv x] = v ∧ (A ++ R) = hp' ∧ OS 3 (OT.fr rI) b'.w (sv y k z) k A) := by
 refine fE 28 Tryd.func22 rfl Tryd.ntmps22 rfl ?_
 unfold mLineNumbers at hm
 refine Cr<|As rfl rfl<|As rfl rfl<|Te<|Cr<|As rfl rfl<|Te<|Cs<|Cr<|M rfl rfl ?_
 refine Ts rfl (sE rfl sl57)<|M rfl rfl<|Te<|Cb ?_
 have ab : c.length ≤ 9223372036854775807 := (FZ.bd u)
 obtain ⟨ac, E, m⟩ := bS hm
 refine cF (fun B => fun a => fun n e' hp' => ∃ (d : OA), ∃ (e : Nat), ∃ (f : Hp), [(4, sv d a e), (9, sv o c p), (10, iv ((c.length : Int))), (11, iv ((B : Int)))] = e' ∧ (f ++ R) = hp' ∧ b.Le n ∧ OS 3 (OT.fr rI) n.w (sv d a e) a f) E ⟨none, 0, [], rfl, rfl, lr, OS.nil⟩ (.refl _) ?_ ?_
 rintro B a n _ _ ad ae ⟨d, e, f, rfl, rfl, g, q⟩ C F
 unfold mLineNumbers_L95 at C
 have hm := C
 refine Cr<|Ts rfl (lT rfl rfl (by omega))<|Te<|Cs<|c_cond_t rfl<|Ck<|Xn<|Cs<|Cb<|Cr ?_
 obtain ⟨G, H, hm⟩ := bS hm
 obtain ⟨I, J, K⟩ := iS H
 obtain ⟨af, L, O, S, T⟩ := FZ.get (sz := 1) rfl (by decide) (u.le g) K
 obtain rfl := L
 refine Ts rfl (sI I rfl rfl J T S sl57)<|Ts rfl (sO rfl one9 (O 0 _ rfl))<|As rfl rfl<|Te<|Cr<|M rfl rfl ?_
 obtain ⟨⟨j, U⟩, V, hm⟩ := bS hm
 have hm := (unc2E hm)
 refine Do rfl (uW _ call32 rfl (fun w ho => cLineNumber _ [] ((hG.le g).old ho) G j U V) (fun _ _ _ h => h.2.symm)) ?_
 rintro _ _ ⟨⟨_, rfl, _⟩, rfl⟩
 refine M rfl rfl<|Ts rfl (st_extract rfl rfl)<|Ts rfl (st_extract rfl rfl)<|As rfl rfl<|As rfl rfl<|Te<|Cs<|Cr<|M rfl rfl<|Ts rfl (sn2 rfl) ?_
 refine Te ?_
 refine Cc _ rfl (fun s => ?_) (fun s => ?_)
 rw [if_neg (fun hh => Bool.noConfusion (hh.symm.trans (nt s)))] at hm
 refine Cr<|As rfl rfl<|As rfl rfl<|Te<|Ct<|Xr<|Xb<|Xr<|Xr<|Xb ?_
 refine Xr ?_
 have W := F _ (Option.some.inj hm).symm
 rw [W] at m
 have hm := elimR m
 obtain ⟨rfl, rfl⟩ := some2 hm
 exact rM (rs := [.tmp 2, .tmp 3]) (vs := [sn, bv false]) ⟨rfl, ⟨rfl, trivial⟩⟩ ⟨none, 0, [], rfl, rfl, OS.nil⟩ (ss f (.refl _)) g
 rw [if_pos (nf s)] at hm
 refine Ck<|Xn<|Cg<|M rfl rfl<|M rfl rfl<|Do rfl (u_bslice (el := 3) [(0, iv j)] [iv j] rfl (fun _ => by kernel_rfl)) ?_
 rintro _ _ ⟨ag, rfl, rfl⟩
 obtain ⟨_, t, hm⟩ := bS hm
 have t := room_some t
 refine Do rfl (uQ (r := rI) (l := a) [_] R [[iv j]] [j] rfl (by decide) sl54 inf3 rfl rfl rfl rfl q rfl (fun w ho => Rd.own (i := 0) ho rfl) ⟨rfl, trivial⟩ t) ?_
 rintro _ _ ⟨X, rfl, D⟩
 obtain ⟨Y, Z, rfl, _⟩ := D.form
 refine As rfl rfl<|Tn<|Xm<|Xn<|Cg<|Ts rfl (sa rfl rfl (by omega))<|M rfl rfl<|Tn ?_
 exact xM hm ⟨Y, Z, X, rfl, rfl, (g), D⟩ (.cons _ (.refl _))
 rintro a n _ _ ⟨d, e, f, rfl, rfl, g, q⟩ aa
 rw [aa] at m
 have hm := elimL m
 refine Cr<|Ts rfl (lF rfl rfl (by omega))<|Te<|Cs<|c_cond_f rfl<|Ce<|Xe<|Xe<|Xo<|Xn ?_
 refine Cr<|M rfl rfl<|As rfl rfl<|As rfl rfl<|Te<|Ct ?_
 obtain ⟨rfl, rfl⟩ := some2 hm
 exact rM (rs := [.tmp 2, .tmp 3]) (vs := [sv d a e, bv true]) ⟨rfl, ⟨rfl, trivial⟩⟩ ⟨d, e, f, rfl, rfl, q⟩ (.refl _) g

set_option maxRecDepth 20000 in
theorem cGuardWithin (b : Base) (R : Hp) (c : Int) (d : Int) (e : Int) (f : Bool) (hm : mGuardWithin c d e = some f) :
    CallsG Tryd.prog 16 [iv c, iv d, iv e] b (R) (fun v b' hp' => bv f = v ∧ R = hp') := by
 refine fE 15 Tryd.func16 rfl Tryd.ntmps16 rfl ?_
 unfold mGuardWithin at hm
 refine Cr<|As rfl rfl<|Te ?_
 obtain ⟨g, i, j⟩ := bS hm
 refine Cj (fun h e' hp' => [(6, bv g)] = e' ∧ R = hp' ∧ b.Le h) ?_ ?_
 have hm := i
 refine Cg<|M rfl rfl<|M rfl rfl ?_
 refine Tb rfl (q6 rfl rfl) (fun a => ?_) (fun a => ?_)
 rw [if_pos a] at hm
 refine M rfl rfl<|Ys 10 rfl rfl rfl<|M rfl rfl<|Ys 10 rfl rfl rfl<|M rfl rfl<|Ys 10 rfl rfl rfl<|Ts rfl (q4 rfl rfl)<|Ts rfl (pT rfl rfl)<|As rfl rfl<|Tn ?_
 obtain rfl := o1 hm
 exact xJ ⟨rfl, rfl, lr⟩ (.refl _)
 rw [if_neg a] at hm
 refine M rfl rfl<|No 10 rfl rfl rfl rfl rfl<|No 10 rfl rfl rfl rfl rfl<|No 10 rfl rfl rfl rfl rfl<|Ts rfl (pF rfl rfl)<|As rfl rfl<|Tn ?_
 obtain rfl := o1 hm
 exact xJ ⟨rfl, rfl, lr⟩ (.refl _)
 rintro h _ _ ⟨rfl, rfl, k⟩
 have hm := j
 refine Ct ?_
 obtain rfl := o1 hm
 exact rM (rs := [.tmp 6]) (vs := [bv g]) ⟨rfl, trivial⟩ ⟨rfl, rfl⟩ (.refl _) k

set_option maxRecDepth 20000 in
theorem cGuardPacketUsed (b : Base) (R : Hp) (a : GuardPacket) (l : Int) (m : Int) (n : Int) (o : Int) (p : Int) (q : Int) (r : Int) (s : Int) (hm : mGuardPacketUsed a = some (l, m, n, o, p, q, r, s)) :
    CallsG Tryd.prog 34 [.agg #[iv a.Kind, iv a.Session, iv a.No, iv a.Of, iv a.End, iv a.At, iv a.Speed, iv a.Sent]] b (R) (fun v b' hp' => .agg #[iv l, iv m, iv n, iv o, iv p, iv q, iv r, iv s] = v ∧ R = hp') := by
 refine fE 51 Tryd.func34 rfl Tryd.ntmps34 rfl ?_
 unfold mGuardPacketUsed at hm
 refine Cr<|Do rfl (uB _ rfl rfl) ?_
 rintro _ _ ⟨t, rfl, rfl⟩
 refine Do rfl (uA [iv 0, iv 0, iv 0, iv 0, iv 0, iv 0, iv 0, iv 0] zero33 rfl) ?_
 rintro _ _ ⟨c, rfl, rfl⟩
 refine Te<|Cr<|Ts rfl (sF rfl fld33_0)<|Ts rfl (sL 1 rfl one3 rfl rfl)<|Ts rfl (sF rfl fld33_1)<|Ts rfl (sL 1 rfl one3 rfl rfl)<|Ts rfl (sF rfl fld33_2)<|Ts rfl (sL 1 rfl one3 rfl rfl)<|Ts rfl (sF rfl fld33_7)<|Ts rfl (sL 1 rfl one3 rfl rfl) ?_
 refine Ts rfl (sB (v := .agg #[iv a.Kind, iv a.Session, iv a.No, iv 0, iv 0, iv 0, iv 0, iv a.Sent]) [(0, iv a.Kind), (1, iv a.Session), (2, iv a.No), (7, iv a.Sent)] rfl (fun _ => by kernel_rfl))<|Do rfl (uA [iv 0, iv 0, iv 0, iv 0, iv 0, iv 0, iv 0, iv 0] zero33 rfl) ?_
 rintro _ _ ⟨d, rfl, rfl⟩
 refine Do rfl (uN (vs := [_, _, _, _, _, _, _, _]) 0 8 rfl rfl rfl siz33 rfl (mc rfl (mc rfl (mc rfl (mc rfl (mc rfl (mc rfl (mc rfl (mc rfl mn)))))))) rfl (by simp)) ?_
 rintro _ _ rfl
 refine Te ?_
 obtain ⟨⟨u, x, y, z⟩, C, D⟩ := bS hm
 refine Cj (fun A e' hp' => [(2, pb c), (3, pb d)] = e' ∧ (c, Cl 33 [iv 0, iv 0, iv 0, iv 0, iv 0, iv 0, iv 0, iv 0]) :: (d, Cl 33 [iv a.Kind, iv a.Session, iv a.No, iv u, iv x, iv y, iv z, iv a.Sent]) :: R = hp' ∧ b.Le A) ?_ ?_
 have hm := C
 refine Cr<|Ts rfl (sF rfl fld33_0)<|Ts rfl (sL 2 rfl one3 rfl rfl)<|Te<|Cb<|Cr<|Ts rfl (q1 rfl rfl)<|As rfl rfl<|Te ?_
 refine Cc _ rfl (fun f => ?_) (fun f => ?_)
 rw [if_pos (of_decide_eq_true f)] at hm
 refine Cg<|Ts rfl (sF rfl fld33_5)<|Ts rfl (sL 2 rfl one3 rfl rfl)<|Ts rfl (sF rfl fld33_5)<|Do rfl (uS 0 rfl rfl siz3 rfl rfl (by simp)) ?_
 rintro _ _ rfl
 refine Tn<|Xm ?_
 obtain ⟨rfl, rfl, rfl, rfl⟩ := some4 hm
 refine Xp 1 rfl ?_
 exact xJ ⟨rfl, rfl, lr⟩ (.cons_cons _ (.cons_cons _ (.cons _ (.refl _))))
 rw [if_neg (of_decide_eq_false f)] at hm
 refine Cr<|Ts rfl (q1 rfl rfl)<|As rfl rfl<|Te ?_
 refine Cc _ rfl (fun g => ?_) (fun g => ?_)
 rw [if_pos (of_decide_eq_true g)] at hm
 refine Di mixed (.cons _ (.refl _))<|E0 0 rfl (sF rfl fld33_4)<|Es 1 rfl (sL 1 rfl one3 rfl rfl)<|E0 2 rfl (sF rfl fld33_5)<|Es 3 rfl (sL 1 rfl one3 rfl rfl)<|E0 4 rfl (sF rfl fld33_6)<|Es 5 rfl (sL 1 rfl one3 rfl rfl)<|E0 6 rfl (sF rfl fld33_4)<|Eo<|Da [7] (by kernel_rfl) rfl ?_
 refine Rd2 lr rfl rfl (uS 0 rfl rfl siz3 rfl rfl (by simp)) ?_ ?_
 rintro _ _ rfl
 refine ⟨.inr (.cons _ (.refl _)), ?_⟩
 refine Ei lr (.cons _ (.refl _))<|E0 8 rfl (sF rfl fld33_5)<|Eo<|Da [9] (by kernel_rfl) rfl ?_
 refine Rd2 lr rfl rfl (uS 0 rfl rfl siz3 rfl rfl (by simp)) ?_ ?_
 rintro _ _ rfl
 refine ⟨.inr (.cons _ (.refl _)), ?_⟩
 refine Ei lr (.cons _ (.refl _))<|E0 10 rfl (sF rfl fld33_6)<|Eo<|Da [11] (by kernel_rfl) rfl ?_
 refine Rd2 lr rfl rfl (uS 0 rfl rfl siz3 rfl rfl (by simp)) ?_ ?_
 rintro _ _ rfl
 refine ⟨.inl (by kernel_rfl), ?_⟩
 refine Dd (by kernel_rfl)<|Xm ?_
 obtain ⟨rfl, rfl, rfl, rfl⟩ := some4 hm
 refine Xp 1 rfl ?_
 exact xJ ⟨rfl, rfl, lr⟩ (.cons_cons _ (.cons_cons _ (.cons _ (.refl _))))
 exact Rn
 exact Rn
 exact Rn
 rw [if_neg (of_decide_eq_false g)] at hm
 obtain ⟨E, F, G⟩ := bS hm
 refine Cj (fun B e' hp' => [(1, pb t), (2, pb c), (3, pb d), (14, iv a.Kind), (31, bv E)] = e' ∧ (t, Cl 33 [iv a.Kind, iv a.Session, iv a.No, iv a.Of, iv a.End, iv a.At, iv a.Speed, iv a.Sent]) :: (c, Cl 33 [iv 0, iv 0, iv 0, iv 0, iv 0, iv 0, iv 0, iv 0]) :: (d, Cl 33 [iv a.Kind, iv a.Session, iv a.No, iv 0, iv 0, iv 0, iv 0, iv a.Sent]) :: R = hp' ∧ b.Le B) ?_ ?_
 have hm := F
 refine Cr<|Ts rfl (q1 rfl rfl)<|As rfl rfl<|Te ?_
 refine Cc _ rfl (fun h => ?_) (fun h => ?_)
 rw [if_pos (of_decide_eq_true h)] at hm
 refine Ck ?_
 obtain rfl := o1 hm
 refine Xp 1 rfl<|Xp 2 rfl ?_
 exact xJ ⟨rfl, rfl, lr⟩ (.refl _)
 rw [if_neg (of_decide_eq_false h)] at hm
 refine Cg<|Ts rfl (q1 rfl rfl)<|As rfl rfl<|Tn ?_
 obtain rfl := o1 hm
 refine Xp 1 rfl<|Xp 2 rfl ?_
 exact xJ ⟨rfl, rfl, lr⟩ (.refl _)
 rintro B _ _ ⟨rfl, rfl, e⟩
 have hm := G
 refine Cc _ rfl (fun i => ?_) (fun i => ?_)
 rw [if_pos i] at hm
 refine Cg<|Ts rfl (sF rfl fld33_4)<|Ts rfl (sL 0 rfl one3 rfl rfl)<|Ts rfl (sF rfl fld33_4)<|Do rfl (uS 2 rfl rfl siz3 rfl rfl (by simp)) ?_
 rintro _ _ rfl
 refine Tn<|Xm ?_
 obtain ⟨rfl, rfl, rfl, rfl⟩ := some4 hm
 refine Xp 2 rfl<|Xp 2 rfl ?_
 exact xJ ⟨rfl, rfl, e⟩ (.cons_cons _ (.cons_cons _ (.cons _ (.refl _))))
 rw [if_neg (fun hh => Bool.noConfusion (hh.symm.trans i))] at hm
 refine Cr<|Ts rfl (q1 rfl rfl)<|As rfl rfl<|Te ?_
 refine Cc _ rfl (fun j => ?_) (fun j => ?_)
 rw [if_pos (of_decide_eq_true j)] at hm
 refine Di mixed (.cons_cons _ (.cons_cons _ (.cons _ (.refl _))))<|E0 0 rfl (sF rfl fld33_3)<|Es 1 rfl (sL 0 rfl one3 rfl rfl)<|E0 2 rfl (sF rfl fld33_4)<|Es 3 rfl (sL 0 rfl one3 rfl rfl)<|E0 4 rfl (sF rfl fld33_3)<|Eo<|Da [5] (by kernel_rfl) rfl ?_
 refine Rd2 lr rfl rfl (uS 2 rfl rfl siz3 rfl rfl (by simp)) ?_ ?_
 rintro _ _ rfl
 refine ⟨.inr (.cons_cons _ (.cons_cons _ (.cons _ (.refl _)))), ?_⟩
 refine Ei lr (.cons_cons _ (.cons_cons _ (.cons _ (.refl _))))<|E0 6 rfl (sF rfl fld33_4)<|Eo<|Da [7] (by kernel_rfl) rfl ?_
 refine Rd2 lr rfl rfl (uS 2 rfl rfl siz3 rfl rfl (by simp)) ?_ ?_
 rintro _ _ rfl
 refine ⟨.inl (by kernel_rfl), ?_⟩
 refine Dd (by kernel_rfl)<|Xm ?_
 obtain ⟨rfl, rfl, rfl, rfl⟩ := some4 hm
 refine Xp 2 rfl<|Xp 2 rfl ?_
 exact xJ ⟨rfl, rfl, e⟩ (.cons_cons _ (.cons_cons _ (.cons _ (.refl _))))
 exact Rn
 exact Rn
 rw [if_neg (of_decide_eq_false j)] at hm
 refine Cr<|Ts rfl (q1 rfl rfl)<|As rfl rfl<|Te ?_
 refine Cc _ rfl (fun k => ?_) (fun k => ?_)
 rw [if_pos (of_decide_eq_true k)] at hm
 refine Cg<|Ts rfl (sF rfl fld33_3)<|Ts rfl (sL 0 rfl one3 rfl rfl)<|Ts rfl (sF rfl fld33_3)<|Do rfl (uS 2 rfl rfl siz3 rfl rfl (by simp)) ?_
 rintro _ _ rfl
 refine Tn<|Xm ?_
 obtain ⟨rfl, rfl, rfl, rfl⟩ := some4 hm
 refine Xp 2 rfl<|Xp 2 rfl ?_
 exact xJ ⟨rfl, rfl, e⟩ (.cons_cons _ (.cons_cons _ (.cons _ (.refl _))))
 rw [if_neg (of_decide_eq_false k)] at hm
 refine Ck<|Xm ?_
 obtain ⟨rfl, rfl, rfl, rfl⟩ := some4 hm
 refine Xp 2 rfl<|Xp 2 rfl ?_
 exact xJ ⟨rfl, rfl, e⟩ (.cons_cons _ (.cons_cons _ (.cons _ (.refl _))))
 rintro A _ _ ⟨rfl, rfl, H⟩
 have hm := (unc4E D)
 refine Cr<|Ts rfl (sD (vs := [_, _, _, _, _, _, _, _]) 1 8 rfl agg33 rfl rfl rfl)<|Do rfl (uN (vs := [_, _, _, _, _, _, _, _]) 0 8 rfl rfl rfl siz33 rfl (mc rfl (mc rfl (mc rfl (mc rfl (mc rfl (mc rfl (mc rfl (mc rfl mn)))))))) rfl (by simp)) ?_
 rintro _ _ rfl
 refine Te<|Ct ?_
 obtain ⟨rfl, rfl, rfl, rfl, rfl, rfl, rfl, rfl⟩ := some8 hm
 exact rM (rs := [.cell 2 33]) (vs := [.agg #[iv a.Kind, iv a.Session, iv a.No, iv u, iv x, iv y, iv z, iv a.Sent]]) ⟨⟨_, rfl, fun w ho => cell_agg (vs := [_, _, _, _, _, _, _, _]) 0 8 agg33 rfl rfl rfl w ho⟩, trivial⟩ ⟨rfl, rfl⟩ (.cons _ (.cons _ (.refl _))) H

set_option maxRecDepth 20000 in
theorem cGuardPacketCheck (b : Base) (R : Hp) (a : GuardPacket) (D : Int) (hm : mGuardPacketCheck a = some D) :
    CallsG Tryd.prog 24 [.agg #[iv a.Kind, iv a.Session, iv a.No, iv a.Of, iv a.End, iv a.At, iv a.Speed, iv a.Sent]] b (R) (fun v b' hp' => iv D = v ∧ R = hp') := by
 refine fE 64 Tryd.func24 rfl Tryd.ntmps24 rfl ?_
 unfold mGuardPacketCheck at hm
 refine Cr<|Do rfl (uB _ rfl rfl) ?_
 rintro _ _ ⟨E, rfl, rfl⟩
 refine As rfl rfl<|Te<|Cs<|Cb<|Cr<|Ts rfl (sF rfl fld33_0)<|Ts rfl (sL 0 rfl one3 rfl rfl) ?_
 obtain ⟨T, U, hm⟩ := bS hm
 refine Do rfl (uW _ call16 rfl (fun w ho => cGuardWithin _ [] a.Kind 1 8 T U) (fun _ _ _ h => h.2.symm)) ?_
 rintro _ _ ⟨⟨_, rfl, _⟩, rfl⟩
 refine Ts rfl (sn2 rfl)<|As rfl rfl<|Te ?_
 refine Cc _ rfl (fun x => ?_) (fun x => ?_)
 rw [if_neg (fun hh => Bool.noConfusion (hh.symm.trans (nt x)))] at hm
 refine Cr<|As rfl rfl<|Te<|Ct<|Xb<|Xr ?_
 obtain rfl := o1 hm
 exact rM (rs := [.tmp 2]) (vs := [iv 15]) ⟨rfl, trivial⟩ ⟨rfl, rfl⟩ (.cons _ (.refl _)) lr
 rw [if_pos (nf x)] at hm
 obtain ⟨V, W, X⟩ := bS hm
 refine Cj (fun y e' hp' => [(1, pb E), (8, bv V)] = e' ∧ (E, Cl 33 [iv a.Kind, iv a.Session, iv a.No, iv a.Of, iv a.End, iv a.At, iv a.Speed, iv a.Sent]) :: R = hp' ∧ b.Le y) ?_ ?_
 have hm := W
 refine Cg<|Ts rfl (sF rfl fld33_1)<|Ts rfl (sL 0 rfl one3 rfl rfl) ?_
 obtain ⟨F, Y, hm⟩ := bS hm
 refine Do rfl (uW _ call16 rfl (fun w ho => cGuardWithin _ [] a.Session 1 1000000 F Y) (fun _ _ _ h => h.2.symm)) ?_
 rintro _ _ ⟨⟨_, rfl, _⟩, rfl⟩
 rcases Bool.eq_false_or_eq_true F with n | n
 rw [if_pos n] at hm
 refine Tr 11 rfl (v' := .bool true) (by rw [n] <;> rfl)<|Ts rfl (st_not_t rfl)<|M rfl rfl<|Ys 13 rfl rfl rfl<|Ts rfl (sF rfl fld33_2)<|Ys 13 rfl rfl rfl<|Ts rfl (sL 0 rfl one3 rfl rfl)<|Ys 13 rfl rfl rfl ?_
 obtain ⟨G, Z, hm⟩ := bS hm
 refine Do rfl (uW _ call16 rfl (fun w ho => cGuardWithin _ [] a.No 1 1000000 G Z) (fun _ _ _ h => h.2.symm)) ?_
 rintro _ _ ⟨⟨_, rfl, _⟩, rfl⟩
 rcases Bool.eq_false_or_eq_true G with o | o
 rw [if_pos o] at hm
 refine Tr 16 rfl (v' := .bool true) (by rw [o] <;> rfl)<|Ys 13 rfl rfl rfl<|Ts rfl (st_not_t rfl)<|Ts rfl (pF rfl rfl)<|M rfl rfl<|Ys 19 rfl rfl rfl<|Ts rfl (sF rfl fld33_3)<|Ys 19 rfl rfl rfl<|Ts rfl (sL 0 rfl one3 rfl rfl)<|Ys 19 rfl rfl rfl ?_
 obtain ⟨H, aa, hm⟩ := bS hm
 refine Do rfl (uW _ call16 rfl (fun w ho => cGuardWithin _ [] a.Of 0 1000000 H aa) (fun _ _ _ h => h.2.symm)) ?_
 rintro _ _ ⟨⟨_, rfl, _⟩, rfl⟩
 rcases Bool.eq_false_or_eq_true H with q | q
 rw [if_pos q] at hm
 refine Tr 22 rfl (v' := .bool true) (by rw [q] <;> rfl)<|Ys 19 rfl rfl rfl<|Ts rfl (st_not_t rfl)<|Ts rfl (pF rfl rfl)<|M rfl rfl<|Ys 25 rfl rfl rfl<|Ts rfl (sF rfl fld33_4)<|Ys 25 rfl rfl rfl<|Ts rfl (sL 0 rfl one3 rfl rfl)<|Ys 25 rfl rfl rfl ?_
 obtain ⟨I, ab, hm⟩ := bS hm
 refine Do rfl (uW _ call16 rfl (fun w ho => cGuardWithin _ [] a.End 0 20000000 I ab) (fun _ _ _ h => h.2.symm)) ?_
 rintro _ _ ⟨⟨_, rfl, _⟩, rfl⟩
 rcases Bool.eq_false_or_eq_true I with r | r
 rw [if_pos r] at hm
 refine Tr 28 rfl (v' := .bool true) (by rw [r] <;> rfl)<|Ys 25 rfl rfl rfl<|Ts rfl (st_not_t rfl)<|Ts rfl (pF rfl rfl)<|M rfl rfl<|Ys 31 rfl rfl rfl<|Ts rfl (sF rfl fld33_5)<|Ys 31 rfl rfl rfl<|Ts rfl (sL 0 rfl one3 rfl rfl)<|Ys 31 rfl rfl rfl ?_
 obtain ⟨J, ac, hm⟩ := bS hm
 refine Do rfl (uW _ call16 rfl (fun w ho => cGuardWithin _ [] a.At 0 20000000 J ac) (fun _ _ _ h => h.2.symm)) ?_
 rintro _ _ ⟨⟨_, rfl, _⟩, rfl⟩
 rcases Bool.eq_false_or_eq_true J with s | s
 rw [if_pos s] at hm
 refine Tr 34 rfl (v' := .bool true) (by rw [s] <;> rfl)<|Ys 31 rfl rfl rfl<|Ts rfl (st_not_t rfl)<|Ts rfl (pF rfl rfl)<|M rfl rfl<|Ys 37 rfl rfl rfl<|Ts rfl (sF rfl fld33_6)<|Ys 37 rfl rfl rfl<|Ts rfl (sL 0 rfl one3 rfl rfl)<|Ys 37 rfl rfl rfl ?_
 obtain ⟨K, ad, hm⟩ := bS hm
 refine Do rfl (uW _ call16 rfl (fun w ho => cGuardWithin _ [] a.Speed 0 6000 K ad) (fun _ _ _ h => h.2.symm)) ?_
 rintro _ _ ⟨⟨_, rfl, _⟩, rfl⟩
 rcases Bool.eq_false_or_eq_true K with t | t
 rw [if_pos t] at hm
 refine Tr 40 rfl (v' := .bool true) (by rw [t] <;> rfl)<|Ys 37 rfl rfl rfl<|Ts rfl (st_not_t rfl)<|Ts rfl (pF rfl rfl)<|M rfl rfl<|Ys 43 rfl rfl rfl<|Ts rfl (sF rfl fld33_7)<|Ys 43 rfl rfl rfl<|Ts rfl (sL 0 rfl one3 rfl rfl)<|Ys 43 rfl rfl rfl ?_
 obtain ⟨ae, af, hm⟩ := bS hm
 refine Do rfl (uW _ call16 rfl (fun w ho => cGuardWithin _ [] a.Sent 0 28800 ae af) (fun _ _ _ h => h.2.symm)) ?_
 rintro _ _ ⟨⟨_, rfl, _⟩, rfl⟩
 refine Ys 43 rfl rfl rfl<|Ts rfl (sn2 rfl)<|Ts rfl (pF rfl rfl)<|As rfl rfl<|Tn ?_
 obtain rfl := o1 hm
 exact xJ ⟨rfl, rfl, lr⟩ (.refl _)
 rw [if_neg (fun hh => Bool.noConfusion (hh.symm.trans t))] at hm
 refine Tr 40 rfl (v' := .bool false) (by rw [t] <;> rfl)<|Ys 37 rfl rfl rfl<|Ts rfl (st_not_f rfl)<|Ts rfl (pF rfl rfl)<|M rfl rfl<|No 43 rfl rfl rfl rfl rfl<|No 43 rfl rfl rfl rfl rfl<|No 43 rfl rfl rfl rfl rfl<|No 43 rfl rfl rfl rfl rfl<|Ts rfl (pT rfl rfl) ?_
 refine As rfl rfl<|Tn ?_
 obtain rfl := o1 hm
 exact xJ ⟨rfl, rfl, lr⟩ (.refl _)
 rw [if_neg (fun hh => Bool.noConfusion (hh.symm.trans s))] at hm
 refine Tr 34 rfl (v' := .bool false) (by rw [s] <;> rfl)<|Ys 31 rfl rfl rfl<|Ts rfl (st_not_f rfl)<|Ts rfl (pF rfl rfl)<|M rfl rfl<|No 37 rfl rfl rfl rfl rfl<|No 37 rfl rfl rfl rfl rfl<|No 37 rfl rfl rfl rfl rfl<|No 37 rfl rfl rfl rfl rfl<|Ts rfl (pT rfl rfl) ?_
 refine M rfl rfl<|No 43 rfl rfl rfl rfl rfl<|No 43 rfl rfl rfl rfl rfl<|No 43 rfl rfl rfl rfl rfl<|No 43 rfl rfl rfl rfl rfl<|Ts rfl (pT rfl rfl)<|As rfl rfl<|Tn ?_
 obtain rfl := o1 hm
 exact xJ ⟨rfl, rfl, lr⟩ (.refl _)
 rw [if_neg (fun hh => Bool.noConfusion (hh.symm.trans r))] at hm
 refine Tr 28 rfl (v' := .bool false) (by rw [r] <;> rfl)<|Ys 25 rfl rfl rfl<|Ts rfl (st_not_f rfl)<|Ts rfl (pF rfl rfl)<|M rfl rfl<|No 31 rfl rfl rfl rfl rfl<|No 31 rfl rfl rfl rfl rfl<|No 31 rfl rfl rfl rfl rfl<|No 31 rfl rfl rfl rfl rfl<|Ts rfl (pT rfl rfl) ?_
 refine M rfl rfl<|No 37 rfl rfl rfl rfl rfl<|No 37 rfl rfl rfl rfl rfl<|No 37 rfl rfl rfl rfl rfl<|No 37 rfl rfl rfl rfl rfl<|Ts rfl (pT rfl rfl)<|M rfl rfl<|No 43 rfl rfl rfl rfl rfl<|No 43 rfl rfl rfl rfl rfl<|No 43 rfl rfl rfl rfl rfl ?_
 refine No 43 rfl rfl rfl rfl rfl<|Ts rfl (pT rfl rfl)<|As rfl rfl<|Tn ?_
 obtain rfl := o1 hm
 exact xJ ⟨rfl, rfl, lr⟩ (.refl _)
 rw [if_neg (fun hh => Bool.noConfusion (hh.symm.trans q))] at hm
 refine Tr 22 rfl (v' := .bool false) (by rw [q] <;> rfl)<|Ys 19 rfl rfl rfl<|Ts rfl (st_not_f rfl)<|Ts rfl (pF rfl rfl)<|M rfl rfl<|No 25 rfl rfl rfl rfl rfl<|No 25 rfl rfl rfl rfl rfl<|No 25 rfl rfl rfl rfl rfl<|No 25 rfl rfl rfl rfl rfl<|Ts rfl (pT rfl rfl) ?_
 refine M rfl rfl<|No 31 rfl rfl rfl rfl rfl<|No 31 rfl rfl rfl rfl rfl<|No 31 rfl rfl rfl rfl rfl<|No 31 rfl rfl rfl rfl rfl<|Ts rfl (pT rfl rfl)<|M rfl rfl<|No 37 rfl rfl rfl rfl rfl<|No 37 rfl rfl rfl rfl rfl<|No 37 rfl rfl rfl rfl rfl ?_
 refine No 37 rfl rfl rfl rfl rfl<|Ts rfl (pT rfl rfl)<|M rfl rfl<|No 43 rfl rfl rfl rfl rfl<|No 43 rfl rfl rfl rfl rfl<|No 43 rfl rfl rfl rfl rfl<|No 43 rfl rfl rfl rfl rfl<|Ts rfl (pT rfl rfl)<|As rfl rfl<|Tn ?_
 obtain rfl := o1 hm
 exact xJ ⟨rfl, rfl, lr⟩ (.refl _)
 rw [if_neg (fun hh => Bool.noConfusion (hh.symm.trans o))] at hm
 refine Tr 16 rfl (v' := .bool false) (by rw [o] <;> rfl)<|Ys 13 rfl rfl rfl<|Ts rfl (st_not_f rfl)<|Ts rfl (pF rfl rfl)<|M rfl rfl<|No 19 rfl rfl rfl rfl rfl<|No 19 rfl rfl rfl rfl rfl<|No 19 rfl rfl rfl rfl rfl<|No 19 rfl rfl rfl rfl rfl<|Ts rfl (pT rfl rfl) ?_
 refine M rfl rfl<|No 25 rfl rfl rfl rfl rfl<|No 25 rfl rfl rfl rfl rfl<|No 25 rfl rfl rfl rfl rfl<|No 25 rfl rfl rfl rfl rfl<|Ts rfl (pT rfl rfl)<|M rfl rfl<|No 31 rfl rfl rfl rfl rfl<|No 31 rfl rfl rfl rfl rfl<|No 31 rfl rfl rfl rfl rfl ?_
 refine No 31 rfl rfl rfl rfl rfl<|Ts rfl (pT rfl rfl)<|M rfl rfl<|No 37 rfl rfl rfl rfl rfl<|No 37 rfl rfl rfl rfl rfl<|No 37 rfl rfl rfl rfl rfl<|No 37 rfl rfl rfl rfl rfl<|Ts rfl (pT rfl rfl)<|M rfl rfl<|No 43 rfl rfl rfl rfl rfl ?_
 refine No 43 rfl rfl rfl rfl rfl<|No 43 rfl rfl rfl rfl rfl<|No 43 rfl rfl rfl rfl rfl<|Ts rfl (pT rfl rfl)<|As rfl rfl<|Tn ?_
 obtain rfl := o1 hm
 exact xJ ⟨rfl, rfl, lr⟩ (.refl _)
 rw [if_neg (fun hh => Bool.noConfusion (hh.symm.trans n))] at hm
 refine Tr 11 rfl (v' := .bool false) (by rw [n] <;> rfl)<|Ts rfl (st_not_f rfl)<|M rfl rfl<|No 13 rfl rfl rfl rfl rfl<|No 13 rfl rfl rfl rfl rfl<|No 13 rfl rfl rfl rfl rfl<|No 13 rfl rfl rfl rfl rfl<|Ts rfl (pT rfl rfl)<|M rfl rfl<|No 19 rfl rfl rfl rfl rfl ?_
 refine No 19 rfl rfl rfl rfl rfl<|No 19 rfl rfl rfl rfl rfl<|No 19 rfl rfl rfl rfl rfl<|Ts rfl (pT rfl rfl)<|M rfl rfl<|No 25 rfl rfl rfl rfl rfl<|No 25 rfl rfl rfl rfl rfl<|No 25 rfl rfl rfl rfl rfl<|No 25 rfl rfl rfl rfl rfl<|Ts rfl (pT rfl rfl) ?_
 refine M rfl rfl<|No 31 rfl rfl rfl rfl rfl<|No 31 rfl rfl rfl rfl rfl<|No 31 rfl rfl rfl rfl rfl<|No 31 rfl rfl rfl rfl rfl<|Ts rfl (pT rfl rfl)<|M rfl rfl<|No 37 rfl rfl rfl rfl rfl<|No 37 rfl rfl rfl rfl rfl<|No 37 rfl rfl rfl rfl rfl ?_
 refine No 37 rfl rfl rfl rfl rfl<|Ts rfl (pT rfl rfl)<|M rfl rfl<|No 43 rfl rfl rfl rfl rfl<|No 43 rfl rfl rfl rfl rfl<|No 43 rfl rfl rfl rfl rfl<|No 43 rfl rfl rfl rfl rfl<|Ts rfl (pT rfl rfl)<|As rfl rfl<|Tn ?_
 obtain rfl := o1 hm
 exact xJ ⟨rfl, rfl, lr⟩ (.refl _)
 rintro y _ _ ⟨rfl, rfl, z⟩
 have hm := X
 refine Cc _ rfl (fun A => ?_) (fun A => ?_)
 rw [if_pos A] at hm
 refine Cr<|As rfl rfl<|Te<|Ct<|Xb<|Xr ?_
 obtain rfl := o1 hm
 exact rM (rs := [.tmp 2]) (vs := [iv 2]) ⟨rfl, trivial⟩ ⟨rfl, rfl⟩ (.cons _ (.refl _)) z
 rw [if_neg (fun hh => Bool.noConfusion (hh.symm.trans A))] at hm
 obtain ⟨ag, ah, ai⟩ := bS hm
 refine Cj (fun L e' hp' => [(49, bv ag)] = e' ∧ R = hp' ∧ y.Le L) ?_ ?_
 have hm := ah
 obtain ⟨⟨c, d, e, f, g, i, j, k⟩, B, hm⟩ := bS hm
 have hm := (unc8E hm)
 rcases Bool.eq_false_or_eq_true (!(decide (a.Kind = c ∧ a.Session = d ∧ a.No = e ∧ a.Of = f ∧ a.End = g ∧ a.At = i ∧ a.Speed = j ∧ a.Sent = k))) with m | m
 rw [if_neg (of_decide_eq_false (nt m))] at hm
 refine Di mixed (.refl _)<|Es 0 rfl (sD (vs := [_, _, _, _, _, _, _, _]) 0 8 rfl agg33 rfl rfl rfl)<|Es 1 rfl (sD (vs := [_, _, _, _, _, _, _, _]) 0 8 rfl agg33 rfl rfl rfl)<|Eo<|Da [2] (by kernel_rfl) rfl ?_
 refine Rg lr rfl rfl _ call34 rfl (cGuardPacketUsed _ _ a c d e f g i j k B) ?_ ?_
 rintro _ O _ l ⟨rfl, rfl⟩
 refine ⟨.inr (.refl _), ?_⟩
 refine Ei l (.refl _)<|E0 3 rfl (stB (st_neqA (xs := [iv a.Kind, iv a.Session, iv a.No, iv a.Of, iv a.End, iv a.At, iv a.Speed, iv a.Sent]) (ys := [iv c, iv d, iv e, iv f, iv g, iv i, iv j, iv k]) (p := a.Kind = c ∧ a.Session = d ∧ a.No = e ∧ a.Of = f ∧ a.End = g ∧ a.At = i ∧ a.Speed = j ∧ a.Sent = k) rfl rfl eqt33 ⟨⟨_, rfl⟩, ⟨⟨_, rfl⟩, ⟨⟨_, rfl⟩, ⟨⟨_, rfl⟩, ⟨⟨_, rfl⟩, ⟨⟨_, rfl⟩, ⟨⟨_, rfl⟩, ⟨⟨_, rfl⟩, trivial⟩⟩⟩⟩⟩⟩⟩⟩ ⟨⟨_, rfl⟩, ⟨⟨_, rfl⟩, ⟨⟨_, rfl⟩, ⟨⟨_, rfl⟩, ⟨⟨_, rfl⟩, ⟨⟨_, rfl⟩, ⟨⟨_, rfl⟩, ⟨⟨_, rfl⟩, trivial⟩⟩⟩⟩⟩⟩⟩⟩ (by simp [eqCells, eqCell, Bool.decide_and, beq_dec])) m)<|E0 4 rfl (sM rfl)<|En 5 54 rfl rfl rfl<|En 6 54 rfl rfl rfl<|En 7 54 rfl rfl rfl<|En 8 54 rfl rfl rfl<|En 9 58 rfl rfl rfl<|En 10 58 rfl rfl rfl<|En 11 58 rfl rfl rfl ?_
 refine En 12 54 rfl rfl rfl<|E0 13 rfl (pT rfl rfl)<|E0 14 rfl (sA rfl)<|Eo<|Dd (by kernel_rfl) ?_
 obtain rfl := o1 hm
 exact xJ ⟨rfl, rfl, l⟩ (.cons _ (.refl _))
 exact Rn
 rw [if_pos (of_decide_eq_true (nf m))] at hm
 by_cases u : a.Of = 0
 rw [if_pos u] at hm
 refine Di mixed (.refl _)<|Es 0 rfl (sD (vs := [_, _, _, _, _, _, _, _]) 0 8 rfl agg33 rfl rfl rfl)<|Es 1 rfl (sD (vs := [_, _, _, _, _, _, _, _]) 0 8 rfl agg33 rfl rfl rfl)<|Eo<|Da [2] (by kernel_rfl) rfl ?_
 refine Rg lr rfl rfl _ call34 rfl (cGuardPacketUsed _ _ a c d e f g i j k B) ?_ ?_
 rintro _ O _ l ⟨rfl, rfl⟩
 refine ⟨.inr (.refl _), ?_⟩
 refine Ei l (.refl _)<|E0 3 rfl (stB (st_neqA (xs := [iv a.Kind, iv a.Session, iv a.No, iv a.Of, iv a.End, iv a.At, iv a.Speed, iv a.Sent]) (ys := [iv c, iv d, iv e, iv f, iv g, iv i, iv j, iv k]) (p := a.Kind = c ∧ a.Session = d ∧ a.No = e ∧ a.Of = f ∧ a.End = g ∧ a.At = i ∧ a.Speed = j ∧ a.Sent = k) rfl rfl eqt33 ⟨⟨_, rfl⟩, ⟨⟨_, rfl⟩, ⟨⟨_, rfl⟩, ⟨⟨_, rfl⟩, ⟨⟨_, rfl⟩, ⟨⟨_, rfl⟩, ⟨⟨_, rfl⟩, ⟨⟨_, rfl⟩, trivial⟩⟩⟩⟩⟩⟩⟩⟩ ⟨⟨_, rfl⟩, ⟨⟨_, rfl⟩, ⟨⟨_, rfl⟩, ⟨⟨_, rfl⟩, ⟨⟨_, rfl⟩, ⟨⟨_, rfl⟩, ⟨⟨_, rfl⟩, ⟨⟨_, rfl⟩, trivial⟩⟩⟩⟩⟩⟩⟩⟩ (by simp [eqCells, eqCell, Bool.decide_and, beq_dec])) m)<|E0 4 rfl (sM rfl)<|Yz 5 54 rfl (sF rfl fld33_3)<|Ey 6 54 rfl (sL 0 rfl one3 rfl rfl)<|Yz 7 54 rfl (eT rfl rfl u)<|Yz 8 54 rfl (sM rfl)<|Yz 9 58 rfl (sF rfl fld33_0)<|Ey 10 58 rfl (sL 0 rfl one3 rfl rfl)<|Yz 11 58 rfl (q6 rfl rfl) ?_
 refine Yz 12 54 rfl (pT rfl rfl)<|E0 13 rfl (pF rfl rfl)<|E0 14 rfl (sA rfl)<|Eo<|Dd (by kernel_rfl) ?_
 obtain rfl := o1 hm
 exact xJ ⟨rfl, rfl, l⟩ (.cons _ (.refl _))
 exact Rn
 rw [if_neg u] at hm
 refine Di mixed (.refl _)<|Es 0 rfl (sD (vs := [_, _, _, _, _, _, _, _]) 0 8 rfl agg33 rfl rfl rfl)<|Es 1 rfl (sD (vs := [_, _, _, _, _, _, _, _]) 0 8 rfl agg33 rfl rfl rfl)<|Eo<|Da [2] (by kernel_rfl) rfl ?_
 refine Rg lr rfl rfl _ call34 rfl (cGuardPacketUsed _ _ a c d e f g i j k B) ?_ ?_
 rintro _ O _ l ⟨rfl, rfl⟩
 refine ⟨.inr (.refl _), ?_⟩
 refine Ei l (.refl _)<|E0 3 rfl (stB (st_neqA (xs := [iv a.Kind, iv a.Session, iv a.No, iv a.Of, iv a.End, iv a.At, iv a.Speed, iv a.Sent]) (ys := [iv c, iv d, iv e, iv f, iv g, iv i, iv j, iv k]) (p := a.Kind = c ∧ a.Session = d ∧ a.No = e ∧ a.Of = f ∧ a.End = g ∧ a.At = i ∧ a.Speed = j ∧ a.Sent = k) rfl rfl eqt33 ⟨⟨_, rfl⟩, ⟨⟨_, rfl⟩, ⟨⟨_, rfl⟩, ⟨⟨_, rfl⟩, ⟨⟨_, rfl⟩, ⟨⟨_, rfl⟩, ⟨⟨_, rfl⟩, ⟨⟨_, rfl⟩, trivial⟩⟩⟩⟩⟩⟩⟩⟩ ⟨⟨_, rfl⟩, ⟨⟨_, rfl⟩, ⟨⟨_, rfl⟩, ⟨⟨_, rfl⟩, ⟨⟨_, rfl⟩, ⟨⟨_, rfl⟩, ⟨⟨_, rfl⟩, ⟨⟨_, rfl⟩, trivial⟩⟩⟩⟩⟩⟩⟩⟩ (by simp [eqCells, eqCell, Bool.decide_and, beq_dec])) m)<|E0 4 rfl (sM rfl)<|Yz 5 54 rfl (sF rfl fld33_3)<|Ey 6 54 rfl (sL 0 rfl one3 rfl rfl)<|Yz 7 54 rfl (eF rfl rfl u)<|Yz 8 54 rfl (sM rfl)<|En 9 58 rfl rfl rfl<|En 10 58 rfl rfl rfl<|En 11 58 rfl rfl rfl ?_
 refine Yz 12 54 rfl (pF rfl rfl)<|E0 13 rfl (pF rfl rfl)<|E0 14 rfl (sA rfl)<|Eo<|Dd (by kernel_rfl) ?_
 obtain rfl := o1 hm
 exact xJ ⟨rfl, rfl, l⟩ (.cons _ (.refl _))
 exact Rn
 rintro L _ _ ⟨rfl, rfl, S⟩
 have hm := ai
 refine Cc _ rfl (fun C => ?_) (fun C => ?_)
 rw [if_pos C] at hm
 refine Cr<|As rfl rfl<|Te<|Ct<|Xb<|Xr ?_
 obtain rfl := o1 hm
 exact rM (rs := [.tmp 2]) (vs := [iv 1]) ⟨rfl, trivial⟩ ⟨rfl, rfl⟩ (.refl _) (z.trans S)
 rw [if_neg (fun hh => Bool.noConfusion (hh.symm.trans C))] at hm
 refine Ck<|Xm<|Xn<|Cr<|As rfl rfl<|Te<|Ct ?_
 obtain rfl := o1 hm
 exact rM (rs := [.tmp 2]) (vs := [iv 0]) ⟨rfl, trivial⟩ ⟨rfl, rfl⟩ (.refl _) (z.trans S)

set_option maxRecDepth 20000 in
theorem cGuardUnpack (b : Base) (R : Hp) (hG : GOn GT b) (j : ByteArray) (B : Int) (C : Int) (D : Int) (E : Int) (F : Int) (G : Int) (H : Int) (I : Int) (J : Int) (hm : mGuardUnpack j = some (B, C, D, E, F, G, H, I, J)) :
    CallsG Tryd.prog 15 [.string (j)] b (R) (fun v b' hp' => .tuple #[.agg #[iv B, iv C, iv D, iv E, iv F, iv G, iv H, iv I], iv J] = v ∧ R = hp') := by
 refine fE 54 Tryd.func15 rfl Tryd.ntmps15 rfl ?_
 unfold mGuardUnpack at hm
 refine Cr<|Do rfl (uA [iv 0, iv 0, iv 0, iv 0, iv 0, iv 0, iv 0, iv 0] zero33 rfl) ?_
 rintro _ _ ⟨g, rfl, rfl⟩
 refine As rfl rfl<|Te<|Cr<|M rfl rfl ?_
 obtain ⟨k, ad, hm⟩ := bS hm
 refine Tg _ rfl call23 rfl (cStringsSplit _ _ j (ByteArray.mk #[32]) k ad) ?_
 rintro _ K _ i ⟨ae, af, d, rfl, rfl, ag⟩
 refine t_in1 [] [_] d R rfl ?_
 obtain ⟨⟨L, O⟩, ah, hm⟩ := bS hm
 have hm := (unc2E hm)
 refine Do rfl (u_callWF [_] (d ++ R) _ rfl call22 rfl (fun w ho => cLineNumbers _ [] ((hG.le i).old ho) k ae af (OS.now (o := (OT.fr RT.str)) (l := k) (hs := d) ag ho (.cons _ (List.sublist_append_left _ _))) L O ah)) ?_
 rintro _ _ ⟨_, _, rfl, ai, aj, e, rfl, ak, al⟩
 obtain rfl := List.append_cancel_right ak
 have c := flat_fz (w' := K.w) (fun _ _ _ _ h => h) al
 refine M rfl rfl<|Ts rfl (st_extract rfl rfl)<|Ts rfl (st_extract rfl rfl)<|As rfl rfl<|As rfl rfl<|Te<|Cs ?_
 obtain ⟨am, an, ao⟩ := bS hm
 refine Cj (fun m e' hp' => [(2, pb g), (4, sv ai O aj), (20, bv am)] = e' ∧ (g, Cl 33 [iv 0, iv 0, iv 0, iv 0, iv 0, iv 0, iv 0, iv 0]) :: (e ++ R) = hp' ∧ K.Le m) ?_ ?_
 have hm := an
 refine Cg<|M rfl rfl ?_
 rcases Bool.eq_false_or_eq_true L with f | f
 rw [if_pos f] at hm
 refine Tr 14 rfl (v' := .bool true) (by rw [f] <;> rfl)<|Ts rfl (st_not_t rfl)<|M rfl rfl<|Ys 16 rfl rfl rfl<|M rfl rfl<|Ys 16 rfl rfl rfl<|Ts rfl (sE rfl sl54)<|Ys 16 rfl rfl rfl<|Ts rfl (q2 rfl rfl)<|Ts rfl (pF rfl rfl) ?_
 refine Tn ?_
 obtain rfl := o1 hm
 exact xJ ⟨rfl, rfl, lr⟩ (.cons_cons _ (sp e (ss d (.refl _))))
 rw [if_neg (fun hh => Bool.noConfusion (hh.symm.trans f))] at hm
 refine Tr 14 rfl (v' := .bool false) (by rw [f] <;> rfl)<|Ts rfl (st_not_f rfl)<|M rfl rfl<|No 16 rfl rfl rfl rfl rfl<|No 16 rfl rfl rfl rfl rfl<|No 16 rfl rfl rfl rfl rfl<|Ts rfl (pT rfl rfl)<|Tn ?_
 obtain rfl := o1 hm
 exact xJ ⟨rfl, rfl, lr⟩ (.cons_cons _ (sp e (ss d (.refl _))))
 rintro m _ _ ⟨rfl, rfl, a⟩
 have hm := ao
 refine Cc _ rfl (fun n => ?_) (fun n => ?_)
 rw [if_pos n] at hm
 refine Cr<|Ts rfl (sB (v := .agg #[iv 0, iv 0, iv 0, iv 0, iv 0, iv 0, iv 0, iv 0]) [] rfl (fun _ => by kernel_rfl))<|Do rfl (uN (vs := [_, _, _, _, _, _, _, _]) 0 8 rfl rfl rfl siz33 rfl (mc rfl (mc rfl (mc rfl (mc rfl (mc rfl (mc rfl (mc rfl (mc rfl mn)))))))) rfl (by simp)) ?_
 rintro _ _ rfl
 refine As rfl rfl<|Te<|Ct<|Xr ?_
 obtain ⟨rfl, rfl, rfl, rfl, rfl, rfl, rfl, rfl, rfl⟩ := some9 hm
 exact rM (rs := [.cell 2 33, .tmp 3]) (vs := [.agg #[iv 0, iv 0, iv 0, iv 0, iv 0, iv 0, iv 0, iv 0], iv 10]) ⟨⟨_, rfl, fun w ho => cell_agg (vs := [_, _, _, _, _, _, _, _]) 0 8 agg33 rfl rfl rfl w ho⟩, ⟨rfl, trivial⟩⟩ ⟨rfl, rfl⟩ (.cons _ (ss e (.refl _))) (i.trans a)
 rw [if_neg (fun hh => Bool.noConfusion (hh.symm.trans n))] at hm
 refine Ck<|Xn ?_
 obtain ⟨⟨p, q, r, s, t, u, x, y⟩, aq, ar⟩ := bS hm
 refine Cj (fun S e' hp' => ∃ (z : Nat), [(2, pb g), (6, pb z)] = e' ∧ (g, Cl 33 [iv 0, iv 0, iv 0, iv 0, iv 0, iv 0, iv 0, iv 0]) :: (z, Cl 33 [iv p, iv q, iv r, iv s, iv t, iv u, iv x, iv y]) :: R = hp' ∧ m.Le S) ?_ ?_
 have hm := aq
 obtain ⟨T, au, hm⟩ := bS hm
 obtain ⟨U, av, hm⟩ := bS hm
 obtain ⟨V, aw, hm⟩ := bS hm
 obtain ⟨W, ax, hm⟩ := bS hm
 obtain ⟨X, ay, hm⟩ := bS hm
 obtain ⟨Y, az, hm⟩ := bS hm
 obtain ⟨Z, aA, hm⟩ := bS hm
 obtain ⟨aa, aB, hm⟩ := bS hm
 refine Di mixed (.refl _)<|E0 0 rfl (sM rfl) ?_
 obtain ⟨aC, aD, aE⟩ := iS au
 obtain ⟨bA, bB, bC, bD, bE, aF, aG, aH, aI, bF, bG⟩ := OS.get (sz := 1) rfl (by decide) (c.le a) aE
 obtain ⟨rfl, rfl⟩ := aF
 refine E0 1 rfl (sI aC rfl rfl aD aI aH sl54)<|Es 2 rfl (st_load_rd rfl one3 (fun w ho => aG w _ ho (.cons _ (List.sublist_append_left _ _)) 0 _ rfl))<|E0 3 rfl (sM rfl) ?_
 obtain ⟨aJ, aK, aL⟩ := iS av
 obtain ⟨bH, bI, bJ, bK, bL, aM, aN, aO, aP, bM, bN⟩ := OS.get (sz := 1) rfl (by decide) (c.le a) aL
 obtain ⟨rfl, rfl⟩ := aM
 refine E0 4 rfl (sI aJ rfl rfl aK aP aO sl54)<|Es 5 rfl (st_load_rd rfl one3 (fun w ho => aN w _ ho (.cons _ (List.sublist_append_left _ _)) 0 _ rfl))<|E0 6 rfl (sM rfl) ?_
 obtain ⟨aQ, aR, aS⟩ := iS aw
 obtain ⟨bO, bP, bQ, bR, bT, aT, aU, aV, aW, bU, bV⟩ := OS.get (sz := 1) rfl (by decide) (c.le a) aS
 obtain ⟨rfl, rfl⟩ := aT
 refine E0 7 rfl (sI aQ rfl rfl aR aW aV sl54)<|Es 8 rfl (st_load_rd rfl one3 (fun w ho => aU w _ ho (.cons _ (List.sublist_append_left _ _)) 0 _ rfl))<|E0 9 rfl (sM rfl) ?_
 obtain ⟨aX, aY, aZ⟩ := iS ax
 obtain ⟨bW, bX, bY, bZ, b0, a0, a1, a2, a3, b1, b2⟩ := OS.get (sz := 1) rfl (by decide) (c.le a) aZ
 obtain ⟨rfl, rfl⟩ := a0
 refine E0 10 rfl (sI aX rfl rfl aY a3 a2 sl54)<|Es 11 rfl (st_load_rd rfl one3 (fun w ho => a1 w _ ho (.cons _ (List.sublist_append_left _ _)) 0 _ rfl))<|E0 12 rfl (sM rfl) ?_
 obtain ⟨a4, a5, a6⟩ := iS ay
 obtain ⟨b3, b4, b5, b6, b7, a7, a8, a9, ba, b8, b9⟩ := OS.get (sz := 1) rfl (by decide) (c.le a) a6
 obtain ⟨rfl, rfl⟩ := a7
 refine E0 13 rfl (sI a4 rfl rfl a5 ba a9 sl54)<|Es 14 rfl (st_load_rd rfl one3 (fun w ho => a8 w _ ho (.cons _ (List.sublist_append_left _ _)) 0 _ rfl))<|E0 15 rfl (sM rfl) ?_
 obtain ⟨bb, bc, bd⟩ := iS az
 obtain ⟨ca, cb, cc, cd, ce, be, bf, bg, bh, cf, cg⟩ := OS.get (sz := 1) rfl (by decide) (c.le a) bd
 obtain ⟨rfl, rfl⟩ := be
 refine E0 16 rfl (sI bb rfl rfl bc bh bg sl54)<|Es 17 rfl (st_load_rd rfl one3 (fun w ho => bf w _ ho (.cons _ (List.sublist_append_left _ _)) 0 _ rfl))<|E0 18 rfl (sM rfl) ?_
 obtain ⟨bi, bj, bk⟩ := iS aA
 obtain ⟨ch, ci, cj, ck, cl, bl, bm, bn, bo, cm, cn⟩ := OS.get (sz := 1) rfl (by decide) (c.le a) bk
 obtain ⟨rfl, rfl⟩ := bl
 refine E0 19 rfl (sI bi rfl rfl bj bo bn sl54)<|Es 20 rfl (st_load_rd rfl one3 (fun w ho => bm w _ ho (.cons _ (List.sublist_append_left _ _)) 0 _ rfl))<|E0 21 rfl (sM rfl) ?_
 obtain ⟨bp, bq, br⟩ := iS aB
 obtain ⟨co, cp, cq, cr, cs, bs, bt, bu, bw, ct, cu⟩ := OS.get (sz := 1) rfl (by decide) (c.le a) br
 obtain ⟨rfl, rfl⟩ := bs
 refine E0 22 rfl (sI bp rfl rfl bq bw bu sl54)<|Es 23 rfl (st_load_rd rfl one3 (fun w ho => bt w _ ho (.cons _ (List.sublist_append_left _ _)) 0 _ rfl))<|E0 24 rfl (sB (v := .agg #[iv T, iv U, iv V, iv W, iv X, iv Y, iv Z, iv aa]) [(0, iv T), (1, iv U), (2, iv V), (3, iv W), (4, iv X), (5, iv Y), (6, iv Z), (7, iv aa)] rfl (fun _ => by kernel_rfl))<|Eo<|Da [25] (by kernel_rfl) rfl ?_
 refine Rd2 lr rfl rfl (uA [iv 0, iv 0, iv 0, iv 0, iv 0, iv 0, iv 0, iv 0] zero33 rfl) ?_ ?_
 rintro _ _ ⟨bx, rfl, rfl⟩
 refine ⟨.inr (.cons _ (.refl _)), ?_⟩
 refine Da [26] (by kernel_rfl) rfl ?_
 refine Rd2 lr rfl rfl (uN (vs := [_, _, _, _, _, _, _, _]) 0 8 rfl rfl rfl siz33 rfl (mc rfl (mc rfl (mc rfl (mc rfl (mc rfl (mc rfl (mc rfl (mc rfl mn)))))))) rfl (by simp)) ?_ ?_
 rintro _ _ rfl
 refine ⟨.inl (by kernel_rfl), ?_⟩
 refine Dd (by kernel_rfl) ?_
 obtain ⟨rfl, rfl, rfl, rfl, rfl, rfl, rfl, rfl⟩ := some8 hm
 refine Xp 1 rfl ?_
 exact xJ ⟨bx, rfl, rfl, lr⟩ (.cons_cons _ (.cons_cons _ (ss e (.refl _))))
 exact Rn
 exact Rn
 rintro S _ _ ⟨z, rfl, rfl, ab⟩
 have hm := (unc8E ar)
 refine Cs<|Cr<|Ts rfl (sD (vs := [_, _, _, _, _, _, _, _]) 1 8 rfl agg33 rfl rfl rfl) ?_
 obtain ⟨ac, bz, hm⟩ := bS hm
 refine Do rfl (uW _ call24 rfl (fun w ho => cGuardPacketCheck _ [] (⟨p, q, r, s, t, u, x, y⟩ : GuardPacket) ac bz) (fun _ _ _ h => h.2.symm)) ?_
 rintro _ _ ⟨⟨_, rfl, _⟩, rfl⟩
 refine As rfl rfl<|Te<|Cr<|M rfl rfl<|Ts rfl (q2 rfl rfl)<|Te ?_
 refine Cc _ rfl (fun A => ?_) (fun A => ?_)
 rw [if_pos (of_decide_eq_true A)] at hm
 refine Cr<|Ts rfl (sB (v := .agg #[iv 0, iv 0, iv 0, iv 0, iv 0, iv 0, iv 0, iv 0]) [] rfl (fun _ => by kernel_rfl))<|M rfl rfl<|Do rfl (uN (vs := [_, _, _, _, _, _, _, _]) 0 8 rfl rfl rfl siz33 rfl (mc rfl (mc rfl (mc rfl (mc rfl (mc rfl (mc rfl (mc rfl (mc rfl mn)))))))) rfl (by simp)) ?_
 rintro _ _ rfl
 refine As rfl rfl<|Te<|Ct<|Xr ?_
 obtain ⟨rfl, rfl, rfl, rfl, rfl, rfl, rfl, rfl, rfl⟩ := some9 hm
 exact rM (rs := [.cell 2 33, .tmp 3]) (vs := [.agg #[iv 0, iv 0, iv 0, iv 0, iv 0, iv 0, iv 0, iv 0], iv ac]) ⟨⟨_, rfl, fun w ho => cell_agg (vs := [_, _, _, _, _, _, _, _]) 0 8 agg33 rfl rfl rfl w ho⟩, ⟨rfl, trivial⟩⟩ ⟨rfl, rfl⟩ (.cons _ (.cons _ (.refl _))) (i.trans (a.trans ab))
 rw [if_neg (of_decide_eq_false A)] at hm
 refine Ck<|Xn<|Cr<|Ts rfl (sD (vs := [_, _, _, _, _, _, _, _]) 1 8 rfl agg33 rfl rfl rfl)<|Do rfl (uN (vs := [_, _, _, _, _, _, _, _]) 0 8 rfl rfl rfl siz33 rfl (mc rfl (mc rfl (mc rfl (mc rfl (mc rfl (mc rfl (mc rfl (mc rfl mn)))))))) rfl (by simp)) ?_
 rintro _ _ rfl
 refine As rfl rfl<|Te<|Ct ?_
 obtain ⟨rfl, rfl, rfl, rfl, rfl, rfl, rfl, rfl, rfl⟩ := some9 hm
 exact rM (rs := [.cell 2 33, .tmp 3]) (vs := [.agg #[iv p, iv q, iv r, iv s, iv t, iv u, iv x, iv y], iv 0]) ⟨⟨_, rfl, fun w ho => cell_agg (vs := [_, _, _, _, _, _, _, _]) 0 8 agg33 rfl rfl rfl w ho⟩, ⟨rfl, trivial⟩⟩ ⟨rfl, rfl⟩ (.cons _ (.cons _ (.refl _))) (i.trans (a.trans ab))

set_option maxRecDepth 20000 in
theorem cFishkeep1AwakeGuard (b : Base) (R : Hp) (hG : GOn GT b) (a : Bool) (hm : mFishkeep1AwakeGuard = some a) :
    CallsG Tryd.prog 4 [] b (R) (fun v b' hp' => bv a = v ∧ R = hp') := by
 refine fE 9 Tryd.func4 rfl Tryd.ntmps4 rfl ?_
 unfold mFishkeep1AwakeGuard at hm
 refine Cr<|As rfl rfl<|Te<|Cr ?_
 obtain ⟨⟨d, e, f, g, h, i, j, k, c⟩, l, hm⟩ := bS hm
 have hm := (unc9E hm)
 refine Tg _ rfl call15 rfl (cGuardUnpack _ _ (hG.le lr) (ByteArray.mk #[]) d e f g h i j k c l) ?_
 rintro _ n _ m ⟨rfl, rfl⟩
 refine M rfl rfl<|Ts rfl (st_extract rfl rfl)<|Ts rfl (st_extract rfl rfl)<|Do rfl (uA [iv 0, iv 0, iv 0, iv 0, iv 0, iv 0, iv 0, iv 0] zero33 rfl) ?_
 rintro _ _ ⟨o, rfl, rfl⟩
 refine Do rfl (uN (vs := [_, _, _, _, _, _, _, _]) 0 8 rfl rfl rfl siz33 rfl (mc rfl (mc rfl (mc rfl (mc rfl (mc rfl (mc rfl (mc rfl (mc rfl mn)))))))) rfl (by simp)) ?_
 rintro _ _ rfl
 refine As rfl rfl<|Te<|Cr<|M rfl rfl<|Ts rfl (q2 rfl rfl)<|As rfl rfl<|Te<|Ct ?_
 obtain rfl := o1 hm
 exact rM (rs := [.tmp 0]) (vs := [.bool (decide (c ≠ 0))]) ⟨rfl, trivial⟩ ⟨rfl, rfl⟩ (.cons _ (.refl _)) m

set_option maxRecDepth 20000 in
theorem cGuardNewUnit (b : Base) (R : Hp) (a : Int) (c : Int) (d : Int) (e : Int) (f : Int) (hm : mGuardNewUnit = some (a, c, d, e, f)) :
    CallsG Tryd.prog 5 [] b (R) (fun v b' hp' => ∃ (g : Nat), pb g = v ∧ (g, Cl 45 [iv a, iv c, iv d, iv e, iv f]) :: R = hp') := by
 refine fE 3 Tryd.func5 rfl Tryd.ntmps5 rfl ?_
 unfold mGuardNewUnit at hm
 refine Cr<|As rfl rfl<|Te<|Cr<|Ts rfl (sB (v := .agg #[iv 0, iv 0, iv 0, iv 0, iv 0]) [] rfl (fun _ => by kernel_rfl))<|Do rfl (uB _ rfl rfl) ?_
 rintro _ _ ⟨h, rfl, rfl⟩
 refine As rfl rfl<|Te<|Ct ?_
 obtain ⟨rfl, rfl, rfl, rfl, rfl⟩ := some5 hm
 exact rM (rs := [.tmp 0]) (vs := [pb h]) ⟨rfl, trivial⟩ ⟨h, rfl, rfl⟩ (.refl _) lr

set_option maxRecDepth 20000 in
theorem cGuardNewCentre (b : Base) (R : Hp) (d : Int) (e : Int) (f : Int) (g : Int) (h : Int) (i : Int) (j : Int) (k : Int) (l : Int) (a : (List GuardAsk)) (hm : mGuardNewCentre = some (d, e, f, g, h, i, j, k, l, a)) :
    CallsG Tryd.prog 6 [] b (R) (fun v b' hp' => ∃ (m : Nat), ∃ (c : OA), ∃ (n : Nat), ∃ (o : Hp), pb m = v ∧ (m, Cl 49 [iv d, iv e, iv f, iv g, iv h, sv c a n, iv i, iv j, iv k, iv l]) :: (o ++ R) = hp' ∧ OS 71 (OT.fr rGuardAsk) b'.w (sv c a n) a o ∧ (c = none ↔ a = [])) := by
 refine fE 3 Tryd.func6 rfl Tryd.ntmps6 rfl ?_
 unfold mGuardNewCentre at hm
 refine Cr<|As rfl rfl<|Te<|Cr<|Ts rfl (sB (v := .agg #[iv 0, iv 0, iv 0, iv 0, iv 0, sn, iv 0, iv 0, iv 0, iv 0]) [] rfl (fun _ => by kernel_rfl))<|Do rfl (uB _ rfl rfl) ?_
 rintro _ _ ⟨p, rfl, rfl⟩
 refine As rfl rfl<|Te<|Ct ?_
 obtain ⟨rfl, rfl, rfl, rfl, rfl, rfl, rfl, rfl, rfl, rfl⟩ := some10 hm
 exact rM (rs := [.tmp 0]) (vs := [pb p]) ⟨rfl, trivial⟩ ⟨p, none, 0, [], rfl, rfl, OS.nil, ⟨fun _ => rfl, fun _ => rfl⟩⟩ (.refl _) lr

set_option maxRecDepth 20000 in
theorem cGuardUnitSession (b : Base) (R : Hp) (a : Int) (c : Int) (d : Int) (e : Int) (f : Int) (g : Nat) (h : Int) (hm : mGuardUnitSession a c d e f = some h) :
    CallsG Tryd.prog 7 [pb g] b ((g, Cl 45 [iv a, iv c, iv d, iv e, iv f]) :: R) (fun v b' hp' => iv h = v ∧ (g, Cl 45 [iv a, iv c, iv d, iv e, iv f]) :: R = hp') := by
 refine fE 7 Tryd.func7 rfl Tryd.ntmps7 rfl ?_
 unfold mGuardUnitSession at hm
 refine Cr<|As rfl rfl<|Te<|Cr<|M rfl rfl<|Ts rfl (sN rfl)<|Ts rfl (sF rfl fld45_0)<|Ts rfl (sL 0 rfl one3 rfl rfl)<|As rfl rfl<|Te ?_
 refine Ct ?_
 obtain rfl := o1 hm
 exact rM (rs := [.tmp 2]) (vs := [iv a]) ⟨rfl, trivial⟩ ⟨rfl, rfl⟩ (.refl _) lr

set_option maxRecDepth 20000 in
theorem cGuardUnitEnd (b : Base) (R : Hp) (c : Int) (a : Int) (d : Int) (e : Int) (f : Int) (g : Nat) (h : Int) (hm : mGuardUnitEnd c a d e f = some h) :
    CallsG Tryd.prog 8 [pb g] b ((g, Cl 45 [iv c, iv a, iv d, iv e, iv f]) :: R) (fun v b' hp' => iv h = v ∧ (g, Cl 45 [iv c, iv a, iv d, iv e, iv f]) :: R = hp') := by
 refine fE 7 Tryd.func8 rfl Tryd.ntmps8 rfl ?_
 unfold mGuardUnitEnd at hm
 refine Cr<|As rfl rfl<|Te<|Cr<|M rfl rfl<|Ts rfl (sN rfl)<|Ts rfl (sF rfl fld45_1)<|Ts rfl (sL 0 rfl one3 rfl rfl)<|As rfl rfl<|Te ?_
 refine Ct ?_
 obtain rfl := o1 hm
 exact rM (rs := [.tmp 2]) (vs := [iv a]) ⟨rfl, trivial⟩ ⟨rfl, rfl⟩ (.refl _) lr

set_option maxRecDepth 20000 in
theorem cGuardUnitBegin (b : Base) (R : Hp) (a : Int) (c : Int) (d : Int) (g : Int) (i : Int) (j : Int) (k : Int) (e : Nat) (p : Int) (q : Int) (r : Int) (s : Int) (t : Int) (u : Int) (x : Int) (y : Int) (z : Int) (A : Int) (B : Int) (C : Int) (D : Int) (E : Int) (hm : mGuardUnitBegin a c d g i j k = some (p, q, r, s, t, u, x, y, z, A, B, C, D, E)) :
    CallsG Tryd.prog 9 [pb e, iv a, iv c] b ((e, Cl 45 [iv d, iv g, iv i, iv j, iv k]) :: R) (fun v b' hp' => .tuple #[.agg #[iv p, iv q, iv r, iv s, iv t, iv u, iv x, iv y], iv z] = v ∧ (e, Cl 45 [iv A, iv B, iv C, iv D, iv E]) :: R = hp') := by
 refine fE 42 Tryd.func9 rfl Tryd.ntmps9 rfl ?_
 unfold mGuardUnitBegin at hm
 refine Cr<|Do rfl (uA [iv 0, iv 0, iv 0, iv 0, iv 0, iv 0, iv 0, iv 0] zero33 rfl) ?_
 rintro _ _ ⟨F, rfl, rfl⟩
 refine As rfl rfl<|Te<|Cs<|Cb ?_
 obtain ⟨I, J, K⟩ := bS hm
 refine Cj (fun G e' hp' => [(0, pb e), (1, iv a), (2, iv c), (6, pb F), (8, bv I)] = e' ∧ (e, Cl 45 [iv d, iv g, iv i, iv j, iv k]) :: (F, Cl 33 [iv 0, iv 0, iv 0, iv 0, iv 0, iv 0, iv 0, iv 0]) :: R = hp' ∧ b.Le G) ?_ ?_
 have hm := J
 refine Cg<|M rfl rfl ?_
 obtain ⟨H, L, hm⟩ := bS hm
 refine Do rfl (uW _ call16 rfl (fun w ho => cGuardWithin _ [] a 0 28800 H L) (fun _ _ _ h => h.2.symm)) ?_
 rintro _ _ ⟨⟨_, rfl, _⟩, rfl⟩
 rcases Bool.eq_false_or_eq_true H with f | f
 rw [if_pos f] at hm
 refine Tr 10 rfl (v' := .bool true) (by rw [f] <;> rfl)<|Ts rfl (st_not_t rfl)<|M rfl rfl<|Ys 12 rfl rfl rfl<|M rfl rfl<|Ys 12 rfl rfl rfl ?_
 obtain ⟨O, S, hm⟩ := bS hm
 refine Do rfl (uW _ call16 rfl (fun w ho => cGuardWithin _ [] c 0 20000000 O S) (fun _ _ _ h => h.2.symm)) ?_
 rintro _ _ ⟨⟨_, rfl, _⟩, rfl⟩
 refine Ys 12 rfl rfl rfl<|Ts rfl (sn2 rfl)<|Ts rfl (pF rfl rfl)<|As rfl rfl<|Tn ?_
 obtain rfl := o1 hm
 refine Xp 1 rfl ?_
 exact xJ ⟨rfl, rfl, lr⟩ (.refl _)
 rw [if_neg (fun hh => Bool.noConfusion (hh.symm.trans f))] at hm
 refine Tr 10 rfl (v' := .bool false) (by rw [f] <;> rfl)<|Ts rfl (st_not_f rfl)<|M rfl rfl<|No 12 rfl rfl rfl rfl rfl<|No 12 rfl rfl rfl rfl rfl<|No 12 rfl rfl rfl rfl rfl<|Ts rfl (pT rfl rfl)<|As rfl rfl<|Tn ?_
 obtain rfl := o1 hm
 refine Xp 1 rfl ?_
 exact xJ ⟨rfl, rfl, lr⟩ (.refl _)
 rintro G _ _ ⟨rfl, rfl, l⟩
 have hm := K
 refine Cc _ rfl (fun m => ?_) (fun m => ?_)
 rw [if_pos m] at hm
 refine Cr<|Ts rfl (sB (v := .agg #[iv 0, iv 0, iv 0, iv 0, iv 0, iv 0, iv 0, iv 0]) [] rfl (fun _ => by kernel_rfl))<|Do rfl (uN (vs := [_, _, _, _, _, _, _, _]) 1 8 rfl rfl rfl siz33 rfl (mc rfl (mc rfl (mc rfl (mc rfl (mc rfl (mc rfl (mc rfl (mc rfl mn)))))))) rfl (by simp)) ?_
 rintro _ _ rfl
 refine As rfl rfl<|Te<|Ct<|Xb<|Xr ?_
 obtain ⟨rfl, rfl, rfl, rfl, rfl, rfl, rfl, rfl, rfl, rfl, rfl, rfl, rfl, rfl⟩ := some14 hm
 exact rM (rs := [.cell 6 33, .tmp 7]) (vs := [.agg #[iv 0, iv 0, iv 0, iv 0, iv 0, iv 0, iv 0, iv 0], iv 2]) ⟨⟨_, rfl, fun w ho => cell_agg (vs := [_, _, _, _, _, _, _, _]) 1 8 agg33 rfl rfl rfl w ho⟩, ⟨rfl, trivial⟩⟩ ⟨rfl, rfl⟩ (.cons_cons _ (.cons _ (.refl _))) l
 rw [if_neg (fun hh => Bool.noConfusion (hh.symm.trans m))] at hm
 refine Cr<|M rfl rfl<|Ts rfl (sN rfl)<|Ts rfl (sF rfl fld45_0)<|Ts rfl (sL 0 rfl one3 rfl rfl)<|Ts rfl (q6 rfl rfl)<|As rfl rfl<|Te ?_
 refine Cc _ rfl (fun n => ?_) (fun n => ?_)
 rw [if_pos (of_decide_eq_true n)] at hm
 refine Cr<|Ts rfl (sB (v := .agg #[iv 0, iv 0, iv 0, iv 0, iv 0, iv 0, iv 0, iv 0]) [] rfl (fun _ => by kernel_rfl))<|Do rfl (uN (vs := [_, _, _, _, _, _, _, _]) 1 8 rfl rfl rfl siz33 rfl (mc rfl (mc rfl (mc rfl (mc rfl (mc rfl (mc rfl (mc rfl (mc rfl mn)))))))) rfl (by simp)) ?_
 rintro _ _ rfl
 refine As rfl rfl<|Te<|Ct<|Xb<|Xr ?_
 obtain ⟨rfl, rfl, rfl, rfl, rfl, rfl, rfl, rfl, rfl, rfl, rfl, rfl, rfl, rfl⟩ := some14 hm
 exact rM (rs := [.cell 6 33, .tmp 7]) (vs := [.agg #[iv 0, iv 0, iv 0, iv 0, iv 0, iv 0, iv 0, iv 0], iv 4]) ⟨⟨_, rfl, fun w ho => cell_agg (vs := [_, _, _, _, _, _, _, _]) 1 8 agg33 rfl rfl rfl w ho⟩, ⟨rfl, trivial⟩⟩ ⟨rfl, rfl⟩ (.cons_cons _ (.cons _ (.refl _))) l
 rw [if_neg (of_decide_eq_false n)] at hm
 refine Ck<|Xm<|Xn<|Cr<|M rfl rfl<|M rfl rfl<|Ts rfl (sN rfl)<|Ts rfl (sF rfl fld45_0)<|Ts rfl (sL 0 rfl one3 rfl rfl) ?_
 obtain ⟨_, o, hm⟩ := bS hm
 have o := (kS o).2
 refine Ts rfl (sa rfl rfl o)<|M rfl rfl<|M rfl rfl<|Ts rfl (sB (v := .agg #[iv (d + 1), iv c, iv 1, iv 0, iv a]) [(0, iv (d + 1)), (1, iv c), (2, iv 1), (4, iv a)] rfl (fun _ => by kernel_rfl))<|Ts rfl (sN rfl)<|Do rfl (uN (vs := [_, _, _, _, _]) 0 5 rfl rfl rfl siz45 rfl (mc rfl (mc rfl (mc rfl (mc rfl (mc rfl mn))))) rfl (by simp)) ?_
 rintro _ _ rfl
 refine Te<|Cr<|M rfl rfl<|Ts rfl (sN rfl)<|Ts rfl (sF rfl fld45_0)<|Ts rfl (sL 0 rfl one3 rfl rfl)<|M rfl rfl<|M rfl rfl<|Ts rfl (sB (v := .agg #[iv 1, iv (d + 1), iv 1, iv 0, iv 0, iv c, iv 0, iv a]) [(0, iv 1), (1, iv (d + 1)), (2, iv 1), (5, iv c), (7, iv a)] rfl (fun _ => by kernel_rfl))<|Do rfl (uN (vs := [_, _, _, _, _, _, _, _]) 1 8 rfl rfl rfl siz33 rfl (mc rfl (mc rfl (mc rfl (mc rfl (mc rfl (mc rfl (mc rfl (mc rfl mn)))))))) rfl (by simp)) ?_
 rintro _ _ rfl
 refine As rfl rfl<|Te<|Ct ?_
 obtain ⟨rfl, rfl, rfl, rfl, rfl, rfl, rfl, rfl, rfl, rfl, rfl, rfl, rfl, rfl⟩ := some14 hm
 exact rM (rs := [.cell 6 33, .tmp 7]) (vs := [.agg #[iv 1, iv (d + 1), iv 1, iv 0, iv 0, iv c, iv 0, iv a], iv 0]) ⟨⟨_, rfl, fun w ho => cell_agg (vs := [_, _, _, _, _, _, _, _]) 1 8 agg33 rfl rfl rfl w ho⟩, ⟨rfl, trivial⟩⟩ ⟨rfl, rfl⟩ (.cons_cons _ (.cons _ (.refl _))) l

set_option maxRecDepth 20000 in
theorem cGuardUnitSay (b : Base) (R : Hp) (a : Int) (c : Int) (d : Int) (e : Int) (f : Int) (g : Int) (l : Int) (m : Int) (i : Nat) (s : Int) (t : Int) (u : Int) (x : Int) (y : Int) (z : Int) (A : Int) (B : Int) (C : Int) (D : Int) (hm : mGuardUnitSay a c d e f g l m = some (s, t, u, x, y, z, A, B, C, D)) :
    CallsG Tryd.prog 10 [pb i, iv a, iv c, iv d] b ((i, Cl 45 [iv e, iv f, iv g, iv l, iv m]) :: R) (fun v b' hp' => .tuple #[.agg #[iv s, iv t, iv u, iv x, iv y, iv z, iv A, iv B], iv C] = v ∧ (i, Cl 45 [iv e, iv f, iv D, iv l, iv m]) :: R = hp') := by
 refine fE 62 Tryd.func10 rfl Tryd.ntmps10 rfl ?_
 unfold mGuardUnitSay at hm
 refine Cr<|Do rfl (uA [iv 0, iv 0, iv 0, iv 0, iv 0, iv 0, iv 0, iv 0] zero33 rfl) ?_
 rintro _ _ ⟨E, rfl, rfl⟩
 refine As rfl rfl<|Te<|Cs<|Cb<|Cr<|M rfl rfl<|Ts rfl (sN rfl)<|Ts rfl (sF rfl fld45_0)<|Ts rfl (sL 1 rfl one3 rfl rfl)<|Ts rfl (q1 rfl rfl) ?_
 refine As rfl rfl<|Te ?_
 refine Cc _ rfl (fun n => ?_) (fun n => ?_)
 rw [if_pos (of_decide_eq_true n)] at hm
 refine Cr<|Ts rfl (sB (v := .agg #[iv 0, iv 0, iv 0, iv 0, iv 0, iv 0, iv 0, iv 0]) [] rfl (fun _ => by kernel_rfl))<|Do rfl (uN (vs := [_, _, _, _, _, _, _, _]) 0 8 rfl rfl rfl siz33 rfl (mc rfl (mc rfl (mc rfl (mc rfl (mc rfl (mc rfl (mc rfl (mc rfl mn)))))))) rfl (by simp)) ?_
 rintro _ _ rfl
 refine As rfl rfl<|Te<|Ct<|Xb<|Xr ?_
 obtain ⟨rfl, rfl, rfl, rfl, rfl, rfl, rfl, rfl, rfl, rfl⟩ := some10 hm
 refine Xp 1 rfl ?_
 exact rM (rs := [.cell 8 33, .tmp 9]) (vs := [.agg #[iv 0, iv 0, iv 0, iv 0, iv 0, iv 0, iv 0, iv 0], iv 7]) ⟨⟨_, rfl, fun w ho => cell_agg (vs := [_, _, _, _, _, _, _, _]) 1 8 agg33 rfl rfl rfl w ho⟩, ⟨rfl, trivial⟩⟩ ⟨rfl, rfl⟩ (.cons_cons _ (.cons _ (.refl _))) lr
 rw [if_neg (of_decide_eq_false n)] at hm
 obtain ⟨I, J, K⟩ := bS hm
 refine Cj (fun F e' hp' => [(0, pb i), (1, iv a), (2, iv c), (3, iv d), (8, pb E), (17, bv I)] = e' ∧ (i, Cl 45 [iv e, iv f, iv g, iv l, iv m]) :: (E, Cl 33 [iv 0, iv 0, iv 0, iv 0, iv 0, iv 0, iv 0, iv 0]) :: R = hp' ∧ b.Le F) ?_ ?_
 have hm := J
 refine Cg<|M rfl rfl ?_
 obtain ⟨G, L, hm⟩ := bS hm
 refine Do rfl (uW _ call16 rfl (fun w ho => cGuardWithin _ [] a 0 28800 G L) (fun _ _ _ h => h.2.symm)) ?_
 rintro _ _ ⟨⟨_, rfl, _⟩, rfl⟩
 rcases Bool.eq_false_or_eq_true G with j | j
 rw [if_pos j] at hm
 refine Tr 19 rfl (v' := .bool true) (by rw [j] <;> rfl)<|Ts rfl (st_not_t rfl)<|M rfl rfl<|Ys 21 rfl rfl rfl<|M rfl rfl<|Ys 21 rfl rfl rfl ?_
 obtain ⟨H, O, hm⟩ := bS hm
 refine Do rfl (uW _ call16 rfl (fun w ho => cGuardWithin _ [] c 0 20000000 H O) (fun _ _ _ h => h.2.symm)) ?_
 rintro _ _ ⟨⟨_, rfl, _⟩, rfl⟩
 rcases Bool.eq_false_or_eq_true H with k | k
 rw [if_pos k] at hm
 refine Tr 23 rfl (v' := .bool true) (by rw [k] <;> rfl)<|Ys 21 rfl rfl rfl<|Ts rfl (st_not_t rfl)<|Ts rfl (pF rfl rfl)<|M rfl rfl<|Ys 26 rfl rfl rfl<|M rfl rfl<|Ys 26 rfl rfl rfl ?_
 obtain ⟨S, T, hm⟩ := bS hm
 refine Do rfl (uW _ call16 rfl (fun w ho => cGuardWithin _ [] d 0 6000 S T) (fun _ _ _ h => h.2.symm)) ?_
 rintro _ _ ⟨⟨_, rfl, _⟩, rfl⟩
 refine Ys 26 rfl rfl rfl<|Ts rfl (sn2 rfl)<|Ts rfl (pF rfl rfl)<|As rfl rfl<|Tn ?_
 obtain rfl := o1 hm
 refine Xp 1 rfl ?_
 exact xJ ⟨rfl, rfl, lr⟩ (.refl _)
 rw [if_neg (fun hh => Bool.noConfusion (hh.symm.trans k))] at hm
 refine Tr 23 rfl (v' := .bool false) (by rw [k] <;> rfl)<|Ys 21 rfl rfl rfl<|Ts rfl (st_not_f rfl)<|Ts rfl (pF rfl rfl)<|M rfl rfl<|No 26 rfl rfl rfl rfl rfl<|No 26 rfl rfl rfl rfl rfl<|No 26 rfl rfl rfl rfl rfl<|Ts rfl (pT rfl rfl)<|As rfl rfl ?_
 refine Tn ?_
 obtain rfl := o1 hm
 refine Xp 1 rfl ?_
 exact xJ ⟨rfl, rfl, lr⟩ (.refl _)
 rw [if_neg (fun hh => Bool.noConfusion (hh.symm.trans j))] at hm
 refine Tr 19 rfl (v' := .bool false) (by rw [j] <;> rfl)<|Ts rfl (st_not_f rfl)<|M rfl rfl<|No 21 rfl rfl rfl rfl rfl<|No 21 rfl rfl rfl rfl rfl<|No 21 rfl rfl rfl rfl rfl<|Ts rfl (pT rfl rfl)<|M rfl rfl<|No 26 rfl rfl rfl rfl rfl<|No 26 rfl rfl rfl rfl rfl ?_
 refine No 26 rfl rfl rfl rfl rfl<|Ts rfl (pT rfl rfl)<|As rfl rfl<|Tn ?_
 obtain rfl := o1 hm
 refine Xp 1 rfl ?_
 exact xJ ⟨rfl, rfl, lr⟩ (.refl _)
 rintro F _ _ ⟨rfl, rfl, o⟩
 have hm := K
 refine Cc _ rfl (fun p => ?_) (fun p => ?_)
 rw [if_pos p] at hm
 refine Cr<|Ts rfl (sB (v := .agg #[iv 0, iv 0, iv 0, iv 0, iv 0, iv 0, iv 0, iv 0]) [] rfl (fun _ => by kernel_rfl))<|Do rfl (uN (vs := [_, _, _, _, _, _, _, _]) 1 8 rfl rfl rfl siz33 rfl (mc rfl (mc rfl (mc rfl (mc rfl (mc rfl (mc rfl (mc rfl (mc rfl mn)))))))) rfl (by simp)) ?_
 rintro _ _ rfl
 refine As rfl rfl<|Te<|Ct<|Xb<|Xr ?_
 obtain ⟨rfl, rfl, rfl, rfl, rfl, rfl, rfl, rfl, rfl, rfl⟩ := some10 hm
 exact rM (rs := [.cell 8 33, .tmp 9]) (vs := [.agg #[iv 0, iv 0, iv 0, iv 0, iv 0, iv 0, iv 0, iv 0], iv 2]) ⟨⟨_, rfl, fun w ho => cell_agg (vs := [_, _, _, _, _, _, _, _]) 1 8 agg33 rfl rfl rfl w ho⟩, ⟨rfl, trivial⟩⟩ ⟨rfl, rfl⟩ (.cons_cons _ (.cons _ (.refl _))) o
 rw [if_neg (fun hh => Bool.noConfusion (hh.symm.trans p))] at hm
 refine Cr<|M rfl rfl<|Ts rfl (sN rfl)<|Ts rfl (sF rfl fld45_2)<|Ts rfl (sL 0 rfl one3 rfl rfl)<|Ts rfl (q6 rfl rfl)<|As rfl rfl<|Te ?_
 refine Cc _ rfl (fun q => ?_) (fun q => ?_)
 rw [if_pos (of_decide_eq_true q)] at hm
 refine Cr<|Ts rfl (sB (v := .agg #[iv 0, iv 0, iv 0, iv 0, iv 0, iv 0, iv 0, iv 0]) [] rfl (fun _ => by kernel_rfl))<|Do rfl (uN (vs := [_, _, _, _, _, _, _, _]) 1 8 rfl rfl rfl siz33 rfl (mc rfl (mc rfl (mc rfl (mc rfl (mc rfl (mc rfl (mc rfl (mc rfl mn)))))))) rfl (by simp)) ?_
 rintro _ _ rfl
 refine As rfl rfl<|Te<|Ct<|Xb<|Xr ?_
 obtain ⟨rfl, rfl, rfl, rfl, rfl, rfl, rfl, rfl, rfl, rfl⟩ := some10 hm
 exact rM (rs := [.cell 8 33, .tmp 9]) (vs := [.agg #[iv 0, iv 0, iv 0, iv 0, iv 0, iv 0, iv 0, iv 0], iv 4]) ⟨⟨_, rfl, fun w ho => cell_agg (vs := [_, _, _, _, _, _, _, _]) 1 8 agg33 rfl rfl rfl w ho⟩, ⟨rfl, trivial⟩⟩ ⟨rfl, rfl⟩ (.cons_cons _ (.cons _ (.refl _))) o
 rw [if_neg (of_decide_eq_false q)] at hm
 refine Ck<|Xm<|Xn<|Cr<|M rfl rfl<|Ts rfl (sN rfl)<|Ts rfl (sF rfl fld45_2)<|Ts rfl (sL 0 rfl one3 rfl rfl) ?_
 obtain ⟨_, r, hm⟩ := bS hm
 have r := (kS r).2
 refine Ts rfl (sa rfl rfl r)<|Ts rfl (sN rfl)<|Ts rfl (sF rfl fld45_2)<|Do rfl (uS 0 rfl rfl siz3 rfl rfl (by simp)) ?_
 rintro _ _ rfl
 refine Te<|Cs<|Di mixed (.refl _)<|E0 0 rfl (sM rfl)<|E0 1 rfl (sN rfl)<|E0 2 rfl (sF rfl fld45_0)<|Es 3 rfl (sL 0 rfl one3 rfl rfl)<|E0 4 rfl (sM rfl)<|E0 5 rfl (sN rfl)<|E0 6 rfl (sF rfl fld45_2) ?_
 refine Es 7 rfl (sL 0 rfl one3 rfl rfl)<|E0 8 rfl (sM rfl)<|E0 9 rfl (sN rfl)<|E0 10 rfl (sF rfl fld45_1)<|Es 11 rfl (sL 0 rfl one3 rfl rfl)<|E0 12 rfl (sM rfl)<|E0 13 rfl (sM rfl)<|E0 14 rfl (sM rfl)<|E0 15 rfl (sB (v := .agg #[iv 3, iv e, iv (g + 1), iv 0, iv f, iv c, iv d, iv a]) [(0, iv 3), (1, iv e), (2, iv (g + 1)), (4, iv f), (5, iv c), (6, iv d), (7, iv a)] rfl (fun _ => by kernel_rfl))<|Eo ?_
 refine Da [16] (by kernel_rfl) rfl ?_
 refine Rd2 lr rfl rfl (uN (vs := [_, _, _, _, _, _, _, _]) 1 8 rfl rfl rfl siz33 rfl (mc rfl (mc rfl (mc rfl (mc rfl (mc rfl (mc rfl (mc rfl (mc rfl mn)))))))) rfl (by simp)) ?_ ?_
 rintro _ _ rfl
 refine ⟨.inl (by kernel_rfl), ?_⟩
 refine El lr<|E0 17 rfl (sA rfl)<|Eo<|Dd (by kernel_rfl)<|Xn<|Ct ?_
 obtain ⟨rfl, rfl, rfl, rfl, rfl, rfl, rfl, rfl, rfl, rfl⟩ := some10 hm
 exact rM (rs := [.cell 8 33, .tmp 9]) (vs := [.agg #[iv 3, iv e, iv (g + 1), iv 0, iv f, iv c, iv d, iv a], iv 0]) ⟨⟨_, rfl, fun w ho => cell_agg (vs := [_, _, _, _, _, _, _, _]) 1 8 agg33 rfl rfl rfl w ho⟩, ⟨rfl, trivial⟩⟩ ⟨rfl, rfl⟩ (.cons_cons _ (.cons _ (.refl _))) o
 exact Rn

set_option maxRecDepth 20000 in
theorem cGuardFresh (b : Base) (R : Hp) (a : GuardPacket) (d : Int) (g : Bool) (hm : mGuardFresh a d = some g) :
    CallsG Tryd.prog 30 [.agg #[iv a.Kind, iv a.Session, iv a.No, iv a.Of, iv a.End, iv a.At, iv a.Speed, iv a.Sent], iv d] b (R) (fun v b' hp' => bv g = v ∧ R = hp') := by
 refine fE 19 Tryd.func30 rfl Tryd.ntmps30 rfl ?_
 unfold mGuardFresh at hm
 refine Cr<|Do rfl (uB _ rfl rfl) ?_
 rintro _ _ ⟨t, rfl, rfl⟩
 refine As rfl rfl<|Te ?_
 obtain ⟨i, l, m⟩ := bS hm
 refine Cj (fun j e' hp' => [(4, bv i)] = e' ∧ R = hp' ∧ b.Le j) ?_ ?_
 have hm := l
 refine Cg<|Ts rfl (sD (vs := [_, _, _, _, _, _, _, _]) 0 8 rfl agg33 rfl rfl rfl) ?_
 obtain ⟨n, o, hm⟩ := bS hm
 refine Do rfl (uW _ call24 rfl (fun w ho => cGuardPacketCheck _ [] a n o) (fun _ _ _ h => h.2.symm)) ?_
 rintro _ _ ⟨⟨_, rfl, _⟩, rfl⟩
 refine Tb rfl (q1 rfl rfl) (fun e => ?_) (fun e => ?_)
 rw [if_pos e] at hm
 refine M rfl rfl<|Ys 8 rfl rfl rfl<|M rfl rfl<|Ys 8 rfl rfl rfl ?_
 obtain ⟨k, p, hm⟩ := bS hm
 refine Do rfl (uW _ call16 rfl (fun w ho => cGuardWithin _ [] d 0 28800 k p) (fun _ _ _ h => h.2.symm)) ?_
 rintro _ _ ⟨⟨_, rfl, _⟩, rfl⟩
 rcases Bool.eq_false_or_eq_true k with c | c
 rw [if_pos c] at hm
 refine Tr 10 rfl (v' := .bool true) (by rw [c] <;> rfl)<|Ts rfl (pT rfl rfl)<|M rfl rfl<|Ys 12 rfl rfl rfl<|M rfl rfl<|Ys 12 rfl rfl rfl<|Ts rfl (sF rfl fld33_7)<|Ys 12 rfl rfl rfl<|Ts rfl (sL 0 rfl one3 rfl rfl)<|Ys 12 rfl rfl rfl ?_
 obtain ⟨_, f, hm⟩ := bS hm
 have f := (kS f).2
 refine Ts rfl (sb rfl rfl f)<|Ys 12 rfl rfl rfl ?_
 obtain ⟨q, r, hm⟩ := bS hm
 refine Do rfl (uW _ call16 rfl (fun w ho => cGuardWithin _ [] (d - a.Sent) 0 10 q r) (fun _ _ _ h => h.2.symm)) ?_
 rintro _ _ ⟨⟨_, rfl, _⟩, rfl⟩
 refine Ts rfl (pT rfl rfl)<|As rfl rfl<|Tn ?_
 obtain rfl := o1 hm
 exact xJ ⟨rfl, rfl, lr⟩ (.cons _ (.refl _))
 rw [if_neg (fun hh => Bool.noConfusion (hh.symm.trans c))] at hm
 refine Tr 10 rfl (v' := .bool false) (by rw [c] <;> rfl)<|Ts rfl (pT rfl rfl)<|M rfl rfl<|No 12 rfl rfl rfl rfl rfl<|No 12 rfl rfl rfl rfl rfl<|No 12 rfl rfl rfl rfl rfl<|No 12 rfl rfl rfl rfl rfl<|No 12 rfl rfl rfl rfl rfl<|Ts rfl (pF rfl rfl)<|As rfl rfl ?_
 refine Tn ?_
 obtain rfl := o1 hm
 exact xJ ⟨rfl, rfl, lr⟩ (.cons _ (.refl _))
 rw [if_neg e] at hm
 refine M rfl rfl<|No 8 rfl rfl rfl rfl rfl<|No 8 rfl rfl rfl rfl rfl<|Ts rfl (pF rfl rfl)<|M rfl rfl<|No 12 rfl rfl rfl rfl rfl<|No 12 rfl rfl rfl rfl rfl<|No 12 rfl rfl rfl rfl rfl<|No 12 rfl rfl rfl rfl rfl<|No 12 rfl rfl rfl rfl rfl ?_
 refine Ts rfl (pF rfl rfl)<|As rfl rfl<|Tn ?_
 obtain rfl := o1 hm
 exact xJ ⟨rfl, rfl, lr⟩ (.cons _ (.refl _))
 rintro j _ _ ⟨rfl, rfl, s⟩
 have hm := m
 refine Ct ?_
 obtain rfl := o1 hm
 exact rM (rs := [.tmp 4]) (vs := [bv i]) ⟨rfl, trivial⟩ ⟨rfl, rfl⟩ (.refl _) s

set_option maxRecDepth 20000 in
theorem cGuardUnitWelcome (b : Base) (R : Hp) (a : GuardPacket) (c : GuardStand) (d : Int) (e : Int) (f : Int) (g : Int) (h : Int) (i : Nat) (j : Int) (k : Int) (l : Int) (m : Int) (n : Int) (o : Int) (p : Int) (q : Int) (hm : mGuardUnitWelcome a c d e f g h = some (j, k, l, m, n, o, p, q)) :
    CallsG Tryd.prog 26 [pb i, .agg #[iv a.Kind, iv a.Session, iv a.No, iv a.Of, iv a.End, iv a.At, iv a.Speed, iv a.Sent], .agg #[iv c.high, iv c.way]] b ((i, Cl 45 [iv d, iv e, iv f, iv g, iv h]) :: R) (fun v b' hp' => .agg #[iv j, iv k, iv l, iv m, iv n, iv o, iv p, iv q] = v ∧ (i, Cl 45 [iv d, iv e, iv f, iv g, iv h]) :: R = hp') := by
 refine fE 8 Tryd.func26 rfl Tryd.ntmps26 rfl ?_
 unfold mGuardUnitWelcome at hm
 refine Cr<|Do rfl (uB _ rfl rfl) ?_
 rintro _ _ ⟨r, rfl, rfl⟩
 refine Do rfl (uB _ rfl rfl) ?_
 rintro _ _ ⟨s, rfl, rfl⟩
 refine Do rfl (uA [iv 0, iv 0, iv 0, iv 0, iv 0, iv 0, iv 0, iv 0] zero33 rfl) ?_
 rintro _ _ ⟨t, rfl, rfl⟩
 refine Te<|Cr<|Ts rfl (sB (v := .agg #[iv 0, iv 0, iv 0, iv 0, iv 0, iv 0, iv 0, iv 0]) [] rfl (fun _ => by kernel_rfl))<|Do rfl (uN (vs := [_, _, _, _, _, _, _, _]) 0 8 rfl rfl rfl siz33 rfl (mc rfl (mc rfl (mc rfl (mc rfl (mc rfl (mc rfl (mc rfl (mc rfl mn)))))))) rfl (by simp)) ?_
 rintro _ _ rfl
 refine Te<|Ct ?_
 obtain ⟨rfl, rfl, rfl, rfl, rfl, rfl, rfl, rfl⟩ := some8 hm
 refine Xp 3 rfl ?_
 exact rM (rs := [.cell 6 33]) (vs := [.agg #[iv 0, iv 0, iv 0, iv 0, iv 0, iv 0, iv 0, iv 0]]) ⟨⟨_, rfl, fun w ho => cell_agg (vs := [_, _, _, _, _, _, _, _]) 1 8 agg33 rfl rfl rfl w ho⟩, trivial⟩ ⟨rfl, rfl⟩ (.cons_cons _ (.cons _ (.cons _ (.cons _ (.refl _))))) lr

set_option maxRecDepth 20000 in
theorem cGuardUnitGrant (b : Base) (R : Hp) (a : GuardPacket) (c : GuardStand) (d : Int) (i : Int) (e : Int) (f : Int) (g : Int) (h : Nat) (j : Int) (k : Int) (l : Int) (m : Int) (n : Int) (o : Int) (p : Int) (q : Int) (r : Int) (hm : mGuardUnitGrant a c d i e f g = some (j, k, l, m, n, o, p, q, r)) :
    CallsG Tryd.prog 27 [pb h, .agg #[iv a.Kind, iv a.Session, iv a.No, iv a.Of, iv a.End, iv a.At, iv a.Speed, iv a.Sent], .agg #[iv c.high, iv c.way]] b ((h, Cl 45 [iv d, iv i, iv e, iv f, iv g]) :: R) (fun v b' hp' => .agg #[iv j, iv k, iv l, iv m, iv n, iv o, iv p, iv q] = v ∧ (h, Cl 45 [iv d, iv r, iv e, iv f, iv g]) :: R = hp') := by
 refine fE 18 Tryd.func27 rfl Tryd.ntmps27 rfl ?_
 unfold mGuardUnitGrant at hm
 refine Cr<|Do rfl (uB _ rfl rfl) ?_
 rintro _ _ ⟨s, rfl, rfl⟩
 refine Do rfl (uB _ rfl rfl) ?_
 rintro _ _ ⟨t, rfl, rfl⟩
 refine Do rfl (uA [iv 0, iv 0, iv 0, iv 0, iv 0, iv 0, iv 0, iv 0] zero33 rfl) ?_
 rintro _ _ ⟨u, rfl, rfl⟩
 refine Te<|Cs<|Di mixed (.refl _)<|E0 0 rfl (sM rfl)<|E0 1 rfl (sM rfl)<|E0 2 rfl (sN rfl)<|E0 3 rfl (sF rfl fld45_1)<|Es 4 rfl (sL 3 rfl one3 rfl rfl)<|E0 5 rfl (sF rfl fld33_4)<|Es 6 rfl (sL 2 rfl one3 rfl rfl) ?_
 refine E0 7 rfl (st_max rfl rfl)<|E0 8 rfl (sN rfl)<|E0 9 rfl (sF rfl fld45_1)<|Eo<|Da [10] (by kernel_rfl) rfl ?_
 refine Rd2 lr rfl rfl (uS 3 rfl rfl siz3 rfl rfl (by simp)) ?_ ?_
 rintro _ _ rfl
 refine ⟨.inl (by kernel_rfl), ?_⟩
 refine Dd (by kernel_rfl)<|Xn<|Cr<|Ts rfl (sB (v := .agg #[iv 0, iv 0, iv 0, iv 0, iv 0, iv 0, iv 0, iv 0]) [] rfl (fun _ => by kernel_rfl))<|Do rfl (uN (vs := [_, _, _, _, _, _, _, _]) 0 8 rfl rfl rfl siz33 rfl (mc rfl (mc rfl (mc rfl (mc rfl (mc rfl (mc rfl (mc rfl (mc rfl mn)))))))) rfl (by simp)) ?_
 rintro _ _ rfl
 refine Te<|Ct ?_
 obtain ⟨rfl, rfl, rfl, rfl, rfl, rfl, rfl, rfl, rfl⟩ := some9 hm
 refine Xp 3 rfl ?_
 exact rM (rs := [.cell 6 33]) (vs := [.agg #[iv 0, iv 0, iv 0, iv 0, iv 0, iv 0, iv 0, iv 0]]) ⟨⟨_, rfl, fun w ho => cell_agg (vs := [_, _, _, _, _, _, _, _]) 1 8 agg33 rfl rfl rfl w ho⟩, trivial⟩ ⟨rfl, rfl⟩ (.cons_cons _ (.cons _ (.cons _ (.cons _ (.refl _))))) lr
 exact Rn

set_option maxRecDepth 20000 in
theorem cGuardUnitShort (b : Base) (R : Hp) (a : GuardPacket) (d : GuardStand) (e : Int) (c : Int) (f : Int) (g : Int) (h : Int) (i : Nat) (l : Int) (m : Int) (n : Int) (o : Int) (p : Int) (q : Int) (r : Int) (s : Int) (t : Int) (hm : mGuardUnitShort a d e c f g h = some (l, m, n, o, p, q, r, s, t)) :
    CallsG Tryd.prog 28 [pb i, .agg #[iv a.Kind, iv a.Session, iv a.No, iv a.Of, iv a.End, iv a.At, iv a.Speed, iv a.Sent], .agg #[iv d.high, iv d.way]] b ((i, Cl 45 [iv e, iv c, iv f, iv g, iv h]) :: R) (fun v b' hp' => .agg #[iv l, iv m, iv n, iv o, iv p, iv q, iv r, iv s] = v ∧ (i, Cl 45 [iv e, iv t, iv f, iv g, iv h]) :: R = hp') := by
 refine fE 35 Tryd.func28 rfl Tryd.ntmps28 rfl ?_
 unfold mGuardUnitShort at hm
 refine Cr<|Do rfl (uB _ rfl rfl) ?_
 rintro _ _ ⟨u, rfl, rfl⟩
 refine Do rfl (uB _ rfl rfl) ?_
 rintro _ _ ⟨x, rfl, rfl⟩
 refine Do rfl (uA [iv 0, iv 0, iv 0, iv 0, iv 0, iv 0, iv 0, iv 0] zero33 rfl) ?_
 rintro _ _ ⟨y, rfl, rfl⟩
 refine Te<|Cs<|Cr<|Ts rfl (sF rfl fld33_4)<|Ts rfl (sL 2 rfl one3 rfl rfl)<|Ts rfl (sF rfl fld64_0)<|Ts rfl (sL 1 rfl one3 rfl rfl)<|Ts rfl (sF rfl fld64_1)<|Ts rfl (sL 1 rfl one3 rfl rfl) ?_
 obtain ⟨_, j, hm⟩ := bS hm
 have j := (kS j).2
 refine Ts rfl (sa rfl rfl j)<|Ts rfl (q3 rfl rfl)<|Te ?_
 refine Cc _ rfl (fun k => ?_) (fun k => ?_)
 rw [if_pos (of_decide_eq_true k)] at hm
 refine Cr<|Ts rfl (sF rfl fld33_2)<|Ts rfl (sL 2 rfl one3 rfl rfl)<|Ts rfl (sB (v := .agg #[iv 8, iv 0, iv 0, iv a.No, iv 0, iv 0, iv 0, iv 0]) [(0, iv 8), (3, iv a.No)] rfl (fun _ => by kernel_rfl))<|Do rfl (uN (vs := [_, _, _, _, _, _, _, _]) 0 8 rfl rfl rfl siz33 rfl (mc rfl (mc rfl (mc rfl (mc rfl (mc rfl (mc rfl (mc rfl (mc rfl mn)))))))) rfl (by simp)) ?_
 rintro _ _ rfl
 refine Te<|Ct<|Xr ?_
 obtain ⟨rfl, rfl, rfl, rfl, rfl, rfl, rfl, rfl, rfl⟩ := some9 hm
 refine Xp 3 rfl ?_
 exact rM (rs := [.cell 6 33]) (vs := [.agg #[iv 8, iv 0, iv 0, iv a.No, iv 0, iv 0, iv 0, iv 0]]) ⟨⟨_, rfl, fun w ho => cell_agg (vs := [_, _, _, _, _, _, _, _]) 1 8 agg33 rfl rfl rfl w ho⟩, trivial⟩ ⟨rfl, rfl⟩ (.cons_cons _ (.cons _ (.cons _ (.cons _ (.refl _))))) lr
 rw [if_neg (of_decide_eq_false k)] at hm
 refine Ck<|Xn<|Cs<|Di mixed (.refl _)<|E0 0 rfl (sM rfl)<|E0 1 rfl (sM rfl)<|E0 2 rfl (sN rfl)<|E0 3 rfl (sF rfl fld45_1)<|Es 4 rfl (sL 3 rfl one3 rfl rfl)<|E0 5 rfl (sF rfl fld33_4) ?_
 refine Es 6 rfl (sL 2 rfl one3 rfl rfl)<|E0 7 rfl (st_min rfl rfl)<|E0 8 rfl (sN rfl)<|E0 9 rfl (sF rfl fld45_1)<|Eo<|Da [10] (by kernel_rfl) rfl ?_
 refine Rd2 lr rfl rfl (uS 3 rfl rfl siz3 rfl rfl (by simp)) ?_ ?_
 rintro _ _ rfl
 refine ⟨.inl (by kernel_rfl), ?_⟩
 refine Dd (by kernel_rfl)<|Xn<|Cs<|Di mixed (.refl _)<|E0 0 rfl (sF rfl fld33_2)<|Es 1 rfl (sL 2 rfl one3 rfl rfl)<|E0 2 rfl (sM rfl)<|E0 3 rfl (sN rfl)<|E0 4 rfl (sF rfl fld45_1)<|Es 5 rfl (sL 3 rfl one3 rfl rfl) ?_
 refine E0 6 rfl (sB (v := .agg #[iv 7, iv 0, iv 0, iv a.No, iv (min c a.End), iv 0, iv 0, iv 0]) [(0, iv 7), (3, iv a.No), (4, iv (min c a.End))] rfl (fun _ => by kernel_rfl))<|Eo<|Da [7] (by kernel_rfl) rfl ?_
 refine Rd2 lr rfl rfl (uN (vs := [_, _, _, _, _, _, _, _]) 0 8 rfl rfl rfl siz33 rfl (mc rfl (mc rfl (mc rfl (mc rfl (mc rfl (mc rfl (mc rfl (mc rfl mn)))))))) rfl (by simp)) ?_ ?_
 rintro _ _ rfl
 refine ⟨.inl (by kernel_rfl), ?_⟩
 refine Dd (by kernel_rfl)<|Xn<|Ct ?_
 obtain ⟨rfl, rfl, rfl, rfl, rfl, rfl, rfl, rfl, rfl⟩ := some9 hm
 refine Xp 3 rfl ?_
 exact rM (rs := [.cell 6 33]) (vs := [.agg #[iv 7, iv 0, iv 0, iv a.No, iv (min c a.End), iv 0, iv 0, iv 0]]) ⟨⟨_, rfl, fun w ho => cell_agg (vs := [_, _, _, _, _, _, _, _]) 1 8 agg33 rfl rfl rfl w ho⟩, trivial⟩ ⟨rfl, rfl⟩ (.cons_cons _ (.cons _ (.cons _ (.cons _ (.refl _))))) lr
 exact Rn
 exact Rn

set_option maxRecDepth 20000 in
theorem cGuardUnitStop (b : Base) (R : Hp) (a : GuardPacket) (c : GuardStand) (e : Int) (d : Int) (f : Int) (g : Int) (h : Int) (i : Nat) (k : Int) (l : Int) (m : Int) (n : Int) (o : Int) (p : Int) (q : Int) (r : Int) (s : Int) (hm : mGuardUnitStop a c e d f g h = some (k, l, m, n, o, p, q, r, s)) :
    CallsG Tryd.prog 29 [pb i, .agg #[iv a.Kind, iv a.Session, iv a.No, iv a.Of, iv a.End, iv a.At, iv a.Speed, iv a.Sent], .agg #[iv c.high, iv c.way]] b ((i, Cl 45 [iv e, iv d, iv f, iv g, iv h]) :: R) (fun v b' hp' => .agg #[iv k, iv l, iv m, iv n, iv o, iv p, iv q, iv r] = v ∧ (i, Cl 45 [iv e, iv s, iv f, iv g, iv h]) :: R = hp') := by
 refine fE 27 Tryd.func29 rfl Tryd.ntmps29 rfl ?_
 unfold mGuardUnitStop at hm
 refine Cr<|Do rfl (uB _ rfl rfl) ?_
 rintro _ _ ⟨t, rfl, rfl⟩
 refine Do rfl (uB _ rfl rfl) ?_
 rintro _ _ ⟨u, rfl, rfl⟩
 refine Do rfl (uA [iv 0, iv 0, iv 0, iv 0, iv 0, iv 0, iv 0, iv 0] zero33 rfl) ?_
 rintro _ _ ⟨x, rfl, rfl⟩
 refine Te<|Cs ?_
 obtain ⟨_, j, hm⟩ := bS hm
 refine Di mixed (.refl _)<|E0 0 rfl (sM rfl)<|E0 1 rfl (sM rfl)<|E0 2 rfl (sN rfl)<|E0 3 rfl (sF rfl fld45_1)<|Es 4 rfl (sL 3 rfl one3 rfl rfl)<|E0 5 rfl (sF rfl fld64_0)<|Es 6 rfl (sL 1 rfl one3 rfl rfl)<|E0 7 rfl (sF rfl fld64_1)<|Es 8 rfl (sL 1 rfl one3 rfl rfl) ?_
 have j := (kS j).2
 refine E0 9 rfl (sa rfl rfl j)<|E0 10 rfl (st_min rfl rfl)<|E0 11 rfl (sN rfl)<|E0 12 rfl (sF rfl fld45_1)<|Eo<|Da [13] (by kernel_rfl) rfl ?_
 refine Rd2 lr rfl rfl (uS 3 rfl rfl siz3 rfl rfl (by simp)) ?_ ?_
 rintro _ _ rfl
 refine ⟨.inl (by kernel_rfl), ?_⟩
 refine Dd (by kernel_rfl)<|Xn<|Cs<|Di mixed (.refl _)<|E0 0 rfl (sF rfl fld33_2)<|Es 1 rfl (sL 2 rfl one3 rfl rfl)<|E0 2 rfl (sM rfl)<|E0 3 rfl (sN rfl)<|E0 4 rfl (sF rfl fld45_1)<|Es 5 rfl (sL 3 rfl one3 rfl rfl) ?_
 refine E0 6 rfl (sB (v := .agg #[iv 7, iv 0, iv 0, iv a.No, iv (min d (c.high + c.way)), iv 0, iv 0, iv 0]) [(0, iv 7), (3, iv a.No), (4, iv (min d (c.high + c.way)))] rfl (fun _ => by kernel_rfl))<|Eo<|Da [7] (by kernel_rfl) rfl ?_
 refine Rd2 lr rfl rfl (uN (vs := [_, _, _, _, _, _, _, _]) 0 8 rfl rfl rfl siz33 rfl (mc rfl (mc rfl (mc rfl (mc rfl (mc rfl (mc rfl (mc rfl (mc rfl mn)))))))) rfl (by simp)) ?_ ?_
 rintro _ _ rfl
 refine ⟨.inl (by kernel_rfl), ?_⟩
 refine Dd (by kernel_rfl)<|Xn<|Ct ?_
 obtain ⟨rfl, rfl, rfl, rfl, rfl, rfl, rfl, rfl, rfl⟩ := some9 hm
 refine Xp 3 rfl ?_
 exact rM (rs := [.cell 6 33]) (vs := [.agg #[iv 7, iv 0, iv 0, iv a.No, iv (min d (c.high + c.way)), iv 0, iv 0, iv 0]]) ⟨⟨_, rfl, fun w ho => cell_agg (vs := [_, _, _, _, _, _, _, _]) 1 8 agg33 rfl rfl rfl w ho⟩, trivial⟩ ⟨rfl, rfl⟩ (.cons_cons _ (.cons _ (.cons _ (.cons _ (.refl _))))) lr
 exact Rn
 exact Rn

end Go.Proofs.YtbggpdpcndpaoaaDoor
