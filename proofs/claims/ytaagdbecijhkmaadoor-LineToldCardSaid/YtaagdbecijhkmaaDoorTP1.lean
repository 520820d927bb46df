/- Contracts: the code computes its model (part 1). -/
import Derived.Test.YtaagdbecijhkmaaDoorTT
import Derived.Test.YtaagdbecijhkmaaDoorSh2
import Derived.Test.YtaagdbecijhkmaaDoorBW
import Derived.Test.YtaagdbecijhkmaaDoorXQ
set_option linter.unusedVariables false
set_option linter.unusedSimpArgs false
namespace Go.Proofs.YtaagdbecijhkmaaDoor
open Go.RowKit Go.Fp

open Go.Fp renaming t_mv → M, t_as → As, t_st → Ts, t_do → Do, t_ne → Te, t_nil → Tn, t_no → No, t_yes → Ys, t_bool → Tb, t_callG → Tg, t_resp → Tr, c_sr → Cr, c_seq → Cs, c_region → Cg, c_cond → Cc, c_block → Cb, c_ret → Ct, c_skip → Ck, c_exit → Ce, c_join → Cj, c_pullb → Cp, x_then_normal → Xn, x_then_ret → Xr, x_then_exit → Xe, x_block_ret → Xb, x_block_normal → Xm, x_block_out → Xo, x_block_on → Xi, x_pullb → Xp, x_front2 → X2, x_front3 → X3, x_front4 → X4, x_front5 → X5, x_front6 → X6, E_st → Es, E_s0 → E0, E_yes → Ey, E_y0 → Yz, E_no → En, E_in → Ei, E_out → Eo, D_all → Da, D_done → Dd, D_drawI → Di, R_do → Rd2, R_nil → Rn, st_load → sL, st_loadD → sD, st_field → sF, st_nil → sN, st_len → sE, st_move → sM, st_assign → sA, st_pick_t → pT, st_pick_f → pF, st_index_old → sI, st_load_old → sO, st_loadN_old → sP, st_field_old → sQ, st_add → sa, st_sub → sb, st_lss_t → lT, st_lss_f → lF, st_not → sn2, st_build → sB, u_box → uB, u_alloc → uA, u_store → uS, u_storeN → uN, u_callW0 → uW, u_putOS → uP, u_appOS → uQ, fn_enterG → fE, bindS → bS, some1 → o1, idx_some → iS, sub_skip → ss, sub_app → sp, chk_some → kS, notT → nt, notF → nf, d_front2 → d2, d_front4 → d4, mem_c → mc, mem_n → mn, st_eql → q1, st_neq → q2, st_lss → q3, st_leq → q4, st_gtr → q5, st_geq → q6
set_option maxRecDepth 20000 in
theorem cStringsliteHasSuffix (b : Base) (R : Hp) (d : ByteArray) (e : ByteArray) (f : Bool) (hm : mStringsliteHasSuffix d e = some f) :
    CallsG Tryd.prog 46 [.string (d), .string (e)] b (R) (fun v b' hp' => bv f = v ∧ R = hp') := by
 refine fE 21 Tryd.func46 rfl Tryd.ntmps46 rfl ?_
 unfold mStringsliteHasSuffix at hm
 refine Cr<|As rfl rfl<|Te ?_
 obtain ⟨g, i, j⟩ := bS hm
 refine Cj (fun h e' hp' => [(4, bv g)] = e' ∧ R = hp' ∧ b.Le h) ?_ ?_
 have hm := i
 refine Cg<|M rfl rfl<|Ts rfl (st_slen rfl str9)<|M rfl rfl<|Ts rfl (st_slen rfl str9) ?_
 refine Tb rfl (q6 rfl rfl) (fun a => ?_) (fun a => ?_)
 rw [if_pos a] at hm
 refine M rfl rfl<|Ys 10 rfl rfl rfl<|M rfl rfl<|Ys 10 rfl rfl rfl<|M rfl rfl<|Ys 10 rfl rfl rfl<|Ts rfl (st_slen rfl str9)<|Ys 10 rfl rfl rfl<|M rfl rfl<|Ys 10 rfl rfl rfl ?_
 refine Ts rfl (st_slen rfl str9)<|Ys 10 rfl rfl rfl ?_
 obtain ⟨_, c, hm⟩ := bS hm
 have c := (kS c).2
 refine Ts rfl (sb rfl rfl c)<|Ys 10 rfl rfl rfl ?_
 obtain ⟨m, k, hm⟩ := bS hm
 refine Ts rfl (st_scut rfl (.inr ⟨_, _, rfl, rfl⟩) (.inl ⟨rfl, rfl⟩) k str9)<|Ys 10 rfl rfl rfl<|M rfl rfl<|Ys 10 rfl rfl rfl<|Ts rfl (st_seql rfl rfl)<|Ts rfl (pT rfl rfl)<|As rfl rfl<|Tn ?_
 obtain rfl := o1 hm
 exact xJ ⟨rfl, rfl, lr⟩ (.refl _)
 rw [if_neg a] at hm
 refine M rfl rfl<|No 10 rfl rfl rfl rfl rfl<|No 10 rfl rfl rfl rfl rfl<|No 10 rfl rfl rfl rfl rfl<|No 10 rfl rfl rfl rfl rfl<|No 10 rfl rfl rfl rfl rfl<|No 10 rfl rfl rfl rfl rfl<|No 10 rfl rfl rfl rfl rfl<|No 10 rfl rfl rfl rfl rfl<|No 10 rfl rfl rfl rfl rfl ?_
 refine Ts rfl (pF rfl rfl)<|As rfl rfl<|Tn ?_
 obtain rfl := o1 hm
 exact xJ ⟨rfl, rfl, lr⟩ (.refl _)
 rintro h _ _ ⟨rfl, rfl, l⟩
 have hm := j
 refine Ct ?_
 obtain rfl := o1 hm
 exact rM (rs := [.tmp 4]) (vs := [bv g]) ⟨rfl, trivial⟩ ⟨rfl, rfl⟩ (.refl _) l

set_option maxRecDepth 20000 in
theorem cStringsliteCutSuffix (b : Base) (R : Hp) (a : ByteArray) (c : ByteArray) (f : ByteArray) (g : Bool) (hm : mStringsliteCutSuffix a c = some (f, g)) :
    CallsG Tryd.prog 41 [.string (a), .string (c)] b (R) (fun v b' hp' => .tuple #[.string (f), bv g] = v ∧ R = hp') := by
 refine fE 18 Tryd.func41 rfl Tryd.ntmps41 rfl ?_
 unfold mStringsliteCutSuffix at hm
 refine Cr<|As rfl rfl<|As rfl rfl<|Te<|Cs<|Cr<|M rfl rfl<|M rfl rfl ?_
 obtain ⟨i, j, hm⟩ := bS hm
 refine Do rfl (uW _ call46 rfl (fun w ho => cStringsliteHasSuffix _ [] a c i j) (fun _ _ _ h => h.2.symm)) ?_
 rintro _ _ ⟨⟨_, rfl, _⟩, rfl⟩
 refine Ts rfl (sn2 rfl)<|Te ?_
 refine Cc _ rfl (fun d => ?_) (fun d => ?_)
 rw [if_neg (fun hh => Bool.noConfusion (hh.symm.trans (nt d)))] at hm
 refine Cr<|M rfl rfl<|As rfl rfl<|As rfl rfl<|Te<|Ct<|Xr ?_
 obtain ⟨rfl, rfl⟩ := some2 hm
 exact rM (rs := [.tmp 4, .tmp 5]) (vs := [.string (a), bv false]) ⟨rfl, ⟨rfl, trivial⟩⟩ ⟨rfl, rfl⟩ (.refl _) lr
 rw [if_pos (nf d)] at hm
 refine Ck<|Xn<|Cr<|M rfl rfl<|M rfl rfl<|Ts rfl (st_slen rfl str9)<|M rfl rfl<|Ts rfl (st_slen rfl str9) ?_
 obtain ⟨_, e, hm⟩ := bS hm
 have e := (kS e).2
 refine Ts rfl (sb rfl rfl e) ?_
 obtain ⟨k, l, hm⟩ := bS hm
 refine Ts rfl (st_scut rfl (.inl ⟨rfl, rfl⟩) (.inr ⟨_, _, rfl, rfl⟩) l str9)<|As rfl rfl<|As rfl rfl<|Te<|Ct ?_
 obtain ⟨rfl, rfl⟩ := some2 hm
 exact rM (rs := [.tmp 4, .tmp 5]) (vs := [.string (k), bv true]) ⟨rfl, ⟨rfl, trivial⟩⟩ ⟨rfl, rfl⟩ (.refl _) lr

set_option maxRecDepth 20000 in
theorem cStringsCutSuffix (b : Base) (R : Hp) (a : ByteArray) (c : ByteArray) (d : ByteArray) (e : Bool) (hm : mStringsCutSuffix a c = some (d, e)) :
    CallsG Tryd.prog 34 [.string (a), .string (c)] b (R) (fun v b' hp' => .tuple #[.string (d), bv e] = v ∧ R = hp') := by
 refine fE 11 Tryd.func34 rfl Tryd.ntmps34 rfl ?_
 unfold mStringsCutSuffix at hm
 refine Cr<|As rfl rfl<|As rfl rfl<|Te<|Cr<|M rfl rfl<|M rfl rfl ?_
 obtain ⟨⟨f, g⟩, i, hm⟩ := bS hm
 have hm := (unc2E hm)
 refine Do rfl (uW _ call41 rfl (fun w ho => cStringsliteCutSuffix _ [] a c f g i) (fun _ _ _ h => h.2.symm)) ?_
 rintro _ _ ⟨⟨_, rfl, _⟩, rfl⟩
 refine Ts rfl (st_extract rfl rfl)<|Ts rfl (st_extract rfl rfl)<|As rfl rfl<|As rfl rfl<|Te<|Ct ?_
 obtain ⟨rfl, rfl⟩ := some2 hm
 exact rM (rs := [.tmp 4, .tmp 5]) (vs := [.string (f), bv g]) ⟨rfl, ⟨rfl, trivial⟩⟩ ⟨rfl, rfl⟩ (.refl _) lr

set_option maxRecDepth 20000 in
theorem cStringsliteIndexByte (b : Base) (R : Hp) (a : ByteArray) (c : Int) (d : Int) (hm : mStringsliteIndexByte a c = some d) :
    CallsG Tryd.prog 70 [.string (a), .int .u8 (c)] b (R) (fun v b' hp' => iv d = v ∧ R = hp') := by
 refine fE 8 Tryd.func70 rfl Tryd.ntmps70 rfl ?_
 unfold mStringsliteIndexByte at hm
 refine Cr<|As rfl rfl<|Te<|Cr<|M rfl rfl<|M rfl rfl<|Ts rfl (st_extern ext82_1 ext82_2 ext82_3 ext82_4 ext82_5 rfl (run_sFirst _ _))<|As rfl rfl<|Te<|Ct ?_
 obtain rfl := o1 hm
 exact rM (rs := [.tmp 4]) (vs := [iv ((sFirst a c))]) ⟨rfl, trivial⟩ ⟨rfl, rfl⟩ (.refl _) lr

set_option maxRecDepth 20000 in
theorem cStringsliteIndex (b : Base) (R : Hp) (a : ByteArray) (c : ByteArray) (j : Int) (hm : mStringsliteIndex a c = some j) :
    CallsG Tryd.prog 60 [.string (a), .string (c)] b (R) (fun v b' hp' => iv j = v ∧ R = hp') := by
 refine fE 143 Tryd.func60 rfl Tryd.ntmps60 rfl ?_
 unfold mStringsliteIndex at hm
 refine Cr<|As rfl rfl<|Te<|Cr<|M rfl rfl<|Ts rfl (st_slen rfl str9)<|As rfl rfl<|Te<|Cs<|Cb ?_
 obtain ⟨m, n, o⟩ := bS hm
 refine Cj (fun k e' hp' => [(0, .string (a)), (1, .string (c)), (5, iv ((c.size : Int))), (16, bv m)] = e' ∧ R = hp' ∧ b.Le k) ?_ ?_
 have hm := n
 refine Cg<|M rfl rfl ?_
 refine Tb rfl (q1 rfl rfl) (fun d => ?_) (fun d => ?_)
 rw [if_pos d] at hm
 refine M rfl rfl<|No 19 rfl rfl rfl rfl rfl<|No 19 rfl rfl rfl rfl rfl<|No 19 rfl rfl rfl rfl rfl<|Ts rfl (pT rfl rfl)<|As rfl rfl<|Tn ?_
 obtain rfl := o1 hm
 exact xJ ⟨rfl, rfl, lr⟩ (.refl _)
 rw [if_neg d] at hm
 refine M rfl rfl<|Ys 19 rfl rfl rfl<|M rfl rfl<|Ys 19 rfl rfl rfl<|M rfl rfl<|Ys 19 rfl rfl rfl<|Ts rfl (st_seql rfl rfl)<|Ts rfl (pF rfl rfl)<|As rfl rfl<|Tn ?_
 obtain rfl := o1 hm
 exact xJ ⟨rfl, rfl, lr⟩ (.refl _)
 rintro k _ _ ⟨rfl, rfl, e⟩
 have hm := o
 refine Cc _ rfl (fun f => ?_) (fun f => ?_)
 rw [if_pos f] at hm
 refine Cr<|As rfl rfl<|Te<|Ct<|Xb<|Xr ?_
 obtain rfl := o1 hm
 exact rM (rs := [.tmp 4]) (vs := [iv 0]) ⟨rfl, trivial⟩ ⟨rfl, rfl⟩ (.refl _) e
 rw [if_neg (fun hh => Bool.noConfusion (hh.symm.trans f))] at hm
 refine Cr<|M rfl rfl<|Ts rfl (q1 rfl rfl)<|As rfl rfl<|Te ?_
 refine Cc _ rfl (fun g => ?_) (fun g => ?_)
 rw [if_pos (of_decide_eq_true g)] at hm
 refine Cr<|M rfl rfl<|M rfl rfl ?_
 obtain ⟨p, q, hm⟩ := bS hm
 refine Ts rfl (st_sidx rfl rfl q str9) ?_
 obtain ⟨l, r, hm⟩ := bS hm
 refine Do rfl (uW _ call70 rfl (fun w ho => cStringsliteIndexByte _ [] a p l r) (fun _ _ _ h => h.2.symm)) ?_
 rintro _ _ ⟨⟨_, rfl, _⟩, rfl⟩
 refine As rfl rfl<|Te<|Ct<|Xb<|Xr ?_
 obtain rfl := o1 hm
 exact rM (rs := [.tmp 4]) (vs := [iv l]) ⟨rfl, trivial⟩ ⟨rfl, rfl⟩ (.refl _) e
 rw [if_neg (of_decide_eq_false g)] at hm
 refine Cr<|M rfl rfl<|M rfl rfl<|Ts rfl (st_slen rfl str9)<|Ts rfl (q6 rfl rfl)<|As rfl rfl<|Te ?_
 refine Cc _ rfl (fun i => ?_) (fun i => ?_)
 rw [if_pos (of_decide_eq_true i)] at hm
 refine Cr<|As rfl rfl<|Te<|Ct<|Xb<|Xr ?_
 obtain rfl := o1 hm
 exact rM (rs := [.tmp 4]) (vs := [iv ((-1))]) ⟨rfl, trivial⟩ ⟨rfl, rfl⟩ (.refl _) e
 rw [if_neg (of_decide_eq_false i)] at hm
 refine Cr<|M rfl rfl ?_
 cases hm

set_option maxRecDepth 20000 in
theorem cStringsIndex (b : Base) (R : Hp) (a : ByteArray) (c : ByteArray) (d : Int) (hm : mStringsIndex a c = some d) :
    CallsG Tryd.prog 49 [.string (a), .string (c)] b (R) (fun v b' hp' => iv d = v ∧ R = hp') := by
 refine fE 8 Tryd.func49 rfl Tryd.ntmps49 rfl ?_
 unfold mStringsIndex at hm
 refine Cr<|As rfl rfl<|Te<|Cr<|M rfl rfl<|M rfl rfl ?_
 obtain ⟨e, f, hm⟩ := bS hm
 refine Do rfl (uW _ call60 rfl (fun w ho => cStringsliteIndex _ [] a c e f) (fun _ _ _ h => h.2.symm)) ?_
 rintro _ _ ⟨⟨_, rfl, _⟩, rfl⟩
 refine As rfl rfl<|Te<|Ct ?_
 obtain rfl := o1 hm
 exact rM (rs := [.tmp 4]) (vs := [iv e]) ⟨rfl, trivial⟩ ⟨rfl, rfl⟩ (.refl _) lr

set_option maxRecDepth 20000 in
theorem cStringsCount (b : Base) (R : Hp) (c : ByteArray) (a : ByteArray) (l : Int) (hm : mStringsCount c a = some l) :
    CallsG Tryd.prog 48 [.string (c), .string (a)] b (R) (fun v b' hp' => iv l = v ∧ R = hp') := by
 refine fE 34 Tryd.func48 rfl Tryd.ntmps48 rfl ?_
 unfold mStringsCount at hm
 refine Cr<|As rfl rfl<|Te<|Cs<|Cr<|M rfl rfl<|Ts rfl (st_slen rfl str9)<|Ts rfl (q1 rfl rfl)<|Te ?_
 refine Cc _ rfl (fun d => ?_) (fun d => ?_)
 rw [if_pos (of_decide_eq_true d)] at hm
 refine Cr<|M rfl rfl ?_
 cases hm
 rw [if_neg (of_decide_eq_false d)] at hm
 refine Ck<|Xn<|Cs<|Cr<|M rfl rfl<|Ts rfl (st_slen rfl str9)<|Ts rfl (q1 rfl rfl)<|Te ?_
 refine Cc _ rfl (fun e => ?_) (fun e => ?_)
 rw [if_pos (of_decide_eq_true e)] at hm
 refine Cr<|M rfl rfl<|M rfl rfl ?_
 obtain ⟨p, q, hm⟩ := bS hm
 refine Ts rfl (st_sidx rfl rfl q str9)<|Ts rfl (st_extern ext59_1 ext59_2 ext59_3 ext59_4 ext59_5 rfl (run_sCount _ _))<|As rfl rfl<|Te<|Ct<|Xr ?_
 obtain rfl := o1 hm
 exact rM (rs := [.tmp 4]) (vs := [iv ((sCount c p))]) ⟨rfl, trivial⟩ ⟨rfl, rfl⟩ (.refl _) lr
 rw [if_neg (of_decide_eq_false e)] at hm
 refine Ck<|Xn<|Cr<|As rfl rfl<|Te<|Cb<|cL (unc2 fun f g => fun m e' hp' => [(0, .string (f)), (1, .string (a)), (5, iv g)] = e' ∧ R = hp' ∧ b.Le m) hm ⟨rfl, rfl, lr⟩ (.refl _) ?_
 rintro ⟨f, g⟩ m _ _ x ⟨rfl, rfl, n⟩ o r
 unfold mStringsCount_L40 at o
 have hm := (unc2E o)
 refine Cb<|Cr<|M rfl rfl<|M rfl rfl ?_
 obtain ⟨s, t, hm⟩ := bS hm
 refine Do rfl (uW _ call49 rfl (fun w ho => cStringsIndex _ [] f a s t) (fun _ _ _ h => h.2.symm)) ?_
 rintro _ _ ⟨⟨_, rfl, _⟩, rfl⟩
 refine As rfl rfl<|Te<|Cs<|Cr<|M rfl rfl<|Ts rfl (q1 rfl rfl)<|Te ?_
 refine Cc _ rfl (fun i => ?_) (fun i => ?_)
 rw [if_pos (of_decide_eq_true i)] at hm
 refine Cr<|M rfl rfl<|As rfl rfl<|Te<|Ct<|Xr<|Xb<|Xr<|Xb ?_
 have hm := congrArg some (r _ (Option.some.inj hm).symm)
 obtain rfl := o1 hm
 exact rM (rs := [.tmp 4]) (vs := [iv g]) ⟨rfl, trivial⟩ ⟨rfl, rfl⟩ (.refl _) n
 rw [if_neg (of_decide_eq_false i)] at hm
 refine Ck<|Xn<|Cr<|M rfl rfl ?_
 obtain ⟨_, j, hm⟩ := bS hm
 have j := (kS j).2
 refine Ts rfl (sa rfl rfl j)<|As rfl rfl<|Te<|Cg<|M rfl rfl<|M rfl rfl<|M rfl rfl<|Ts rfl (st_slen rfl str9) ?_
 obtain ⟨_, k, hm⟩ := bS hm
 have k := (kS k).2
 refine Ts rfl (sa rfl rfl k) ?_
 obtain ⟨y, u, hm⟩ := bS hm
 refine Ts rfl (st_scut rfl (.inr ⟨_, _, rfl, rfl⟩) (.inl ⟨rfl, rfl⟩) u str9)<|As rfl rfl<|Tn<|Xm ?_
 exact xM hm ⟨rfl, rfl, (n)⟩ (.refl _)

set_option maxRecDepth 20000 in
theorem cStringsGenSplit (b : Base) (R : Hp) (g : ByteArray) (d : ByteArray) (n : Int) (V : Int) (o : (List ByteArray)) (hm : mStringsGenSplit g d n V = some o) :
    CallsG Tryd.prog 42 [.string (g), .string (d), iv n, iv V] b (R) (fun v b' hp' => ∃ (W : OA), ∃ (X : Nat), ∃ (Y : Hp), sv W o X = v ∧ (Y ++ R) = hp' ∧ OS 9 (OT.fr RT.str) b'.w (sv W o X) o Y) := by
 refine fE 66 Tryd.func42 rfl Tryd.ntmps42 rfl ?_
 unfold mStringsGenSplit at hm
 refine Cr<|As rfl rfl<|Te<|Cs<|Cr<|M rfl rfl<|Ts rfl (q1 rfl rfl)<|Te ?_
 refine Cc _ rfl (fun s => ?_) (fun s => ?_)
 rw [if_pos (of_decide_eq_true s)] at hm
 refine Cr<|As rfl rfl<|Te<|Ct<|Xr ?_
 obtain rfl := o1 hm
 exact rM (rs := [.tmp 8]) (vs := [sn]) ⟨rfl, trivial⟩ ⟨none, 0, [], rfl, rfl, OS.nil⟩ (.refl _) lr
 rw [if_neg (of_decide_eq_false s)] at hm
 refine Ck<|Xn<|Cs<|Cr<|M rfl rfl<|Ts rfl (st_seql rfl rfl)<|Te ?_
 refine Cc _ rfl (fun t => ?_) (fun t => ?_)
 rw [if_pos t] at hm
 refine Cr<|M rfl rfl<|M rfl rfl ?_
 cases hm
 rw [if_neg (fun hh => Bool.noConfusion (hh.symm.trans t))] at hm
 refine Ck<|Xn ?_
 obtain ⟨Z, ao, aq⟩ := bS hm
 refine Cj (fun p e' hp' => [(0, .string (g)), (1, .string (d)), (2, iv n), (3, iv Z)] = e' ∧ R = hp' ∧ b.Le p) ?_ ?_
 have hm := ao
 refine Cr<|M rfl rfl<|Ts rfl (q3 rfl rfl)<|Te ?_
 refine Cc _ rfl (fun u => ?_) (fun u => ?_)
 rw [if_pos (of_decide_eq_true u)] at hm
 refine Cg<|M rfl rfl<|M rfl rfl ?_
 obtain ⟨ar, au, hm⟩ := bS hm
 refine Do rfl (uW _ call48 rfl (fun w ho => cStringsCount _ [] g d ar au) (fun _ _ _ h => h.2.symm)) ?_
 rintro _ _ ⟨⟨_, rfl, _⟩, rfl⟩
 obtain ⟨_, x, hm⟩ := bS hm
 have x := (kS x).2
 refine Ts rfl (sa rfl rfl x)<|As rfl rfl<|Tn ?_
 obtain rfl := o1 hm
 exact xJ ⟨rfl, rfl, lr⟩ (.refl _)
 rw [if_neg (of_decide_eq_false u)] at hm
 refine Ck ?_
 obtain rfl := o1 hm
 exact xJ ⟨rfl, rfl, lr⟩ (.refl _)
 rintro p _ _ ⟨rfl, rfl, av⟩
 have hm := aq
 refine Cr<|M rfl rfl<|M rfl rfl<|Ts rfl (st_slen rfl str9) ?_
 obtain ⟨_, y, hm⟩ := bS hm
 have y := (kS y).2
 refine Ts rfl (sa rfl rfl y)<|Ts rfl (st_min rfl rfl)<|As rfl rfl<|Te<|Cr<|M rfl rfl ?_
 obtain ⟨z, i, hm⟩ := bS hm
 have i := mkLen_some i
 refine Do rfl (u_mkOS (r := RT.str) [] R [.string (ByteArray.empty)] ByteArray.empty z rfl i.1 rfl rfl sl22 inf9 rfl rfl rfl (by decide) rfl i.2.1 i.2.2) ?_
 rintro _ _ ⟨aw, rfl, aa⟩
 obtain ⟨c, a, rfl, _⟩ := aa.form
 refine As rfl rfl<|Te<|Cr<|M rfl rfl ?_
 obtain ⟨_, A, hm⟩ := bS hm
 have A := (kS A).2
 refine Ts rfl (sb rfl rfl A)<|As rfl rfl<|Te<|Cr<|As rfl rfl<|Te ?_
 obtain ⟨⟨j, B, e⟩, ax, ay⟩ := bS hm
 refine Cj (fun C e' hp' => ∃ (D : Hp), [(0, .string (j)), (9, sv c e a), (10, iv B)] = e' ∧ (D ++ R) = hp' ∧ p.Le C ∧ OS 9 (OT.fr RT.str) C.w (sv c e a) e D ∧ e.length = z) ?_ ?_
 have hm := ax
 refine Cb<|cL (unc3 fun E F f => fun G e' hp' => ∃ (k : Hp), [(0, .string (E)), (1, .string (d)), (2, iv n), (3, iv ((min Z ((g.size : Int) + 1)) - 1)), (9, sv c f a), (10, iv F)] = e' ∧ (k ++ R) = hp' ∧ p.Le G ∧ OS 9 (OT.fr RT.str) G.w (sv c f a) f k ∧ f.length = z) hm ⟨aw, rfl, rfl, lr, aa, List.length_replicate⟩ (.refl _) ?_
 rintro ⟨E, F, f⟩ G _ _ aX ⟨k, rfl, rfl, H, q, I⟩ ab ac
 unfold mStringsGenSplit_L419 at ab
 have hm := (unc3E ab)
 refine Cs<|Cr<|M rfl rfl<|M rfl rfl<|Ts rfl (q3 rfl rfl)<|Te ?_
 refine Cc _ rfl (fun J => ?_) (fun J => ?_)
 rw [if_pos (of_decide_eq_true J)] at hm
 refine Ck<|Xn<|Cb<|Cr<|M rfl rfl<|M rfl rfl ?_
 obtain ⟨az, aA, hm⟩ := bS hm
 refine Do rfl (uW _ call49 rfl (fun w ho => cStringsIndex _ [] E d az aA) (fun _ _ _ h => h.2.symm)) ?_
 rintro _ _ ⟨⟨_, rfl, _⟩, rfl⟩
 refine As rfl rfl<|Te<|Cs<|Cr<|M rfl rfl<|Ts rfl (q3 rfl rfl)<|Te ?_
 refine Cc _ rfl (fun K => ?_) (fun K => ?_)
 rw [if_pos (of_decide_eq_true K)] at hm
 refine Ce<|Xe<|Xi rfl<|Xe<|Xo ?_
 have hm := congrArg some (ac _ (Option.some.inj hm).symm)
 obtain ⟨rfl, rfl, rfl⟩ := some3 hm
 exact xJ ⟨k, rfl, rfl, H, q, I⟩ (.refl _)
 rw [if_neg (of_decide_eq_false K)] at hm
 refine Ck<|Xn<|Cr<|M rfl rfl<|M rfl rfl<|M rfl rfl<|M rfl rfl<|M rfl rfl ?_
 obtain ⟨_, L, hm⟩ := bS hm
 have L := (kS L).2
 refine Ts rfl (sa rfl rfl L) ?_
 obtain ⟨O, aB, hm⟩ := bS hm
 refine Ts rfl (st_scut rfl (.inl ⟨rfl, rfl⟩) (.inr ⟨_, _, rfl, rfl⟩) aB str9) ?_
 obtain ⟨aY, aC, hm⟩ := bS hm
 obtain ⟨aD, ad, ae⟩ := iS aC
 obtain ⟨aZ, a0, a1, a2, a3, aE, a4, aF, aG, a5, a6⟩ := OS.get (sz := 1) rfl (by decide) q ae
 obtain ⟨rfl, rfl⟩ := aE
 refine Ts rfl (sI aD rfl rfl ad aG aF sl22)<|Do rfl (uP ad (sz := 1) (a' := O) rfl [] R 0 1 [.string (O)] rfl q ae rfl rfl rfl siz9 rfl (mc rfl mn) (fun cs hsj hh => by obtain ⟨rfl, rfl⟩ := hh; exact ⟨by decide, rfl, rfl⟩)) ?_
 rintro _ _ ⟨aH, rfl, aI⟩
 refine Tr 9 rfl (v' := .slice c (put f F O).length a) (by simp only [put_length])<|Te<|Cr<|M rfl rfl<|M rfl rfl<|M rfl rfl<|Ts rfl (st_slen rfl str9) ?_
 obtain ⟨_, S, hm⟩ := bS hm
 have S := (kS S).2
 refine Ts rfl (sa rfl rfl S) ?_
 obtain ⟨a7, aJ, hm⟩ := bS hm
 refine Ts rfl (st_scut rfl (.inr ⟨_, _, rfl, rfl⟩) (.inl ⟨rfl, rfl⟩) aJ str9)<|As rfl rfl<|Te<|Cg<|M rfl rfl ?_
 obtain ⟨_, T, hm⟩ := bS hm
 have T := (kS T).2
 refine Ts rfl (sa rfl rfl T)<|As rfl rfl<|Tn<|Xm ?_
 exact xM hm ⟨aH, rfl, rfl, (H), aI, ((put_length _ _ _).trans I)⟩ (.refl _)
 rw [if_neg (of_decide_eq_false J)] at hm
 refine Ce<|Xe<|Xe<|Xo ?_
 have hm := congrArg some (ac _ (Option.some.inj hm).symm)
 obtain ⟨rfl, rfl, rfl⟩ := some3 hm
 exact xJ ⟨k, rfl, rfl, H, q, I⟩ (.refl _)
 rintro C _ _ ⟨D, rfl, rfl, aK, af, a8⟩
 have hm := (unc3E ay)
 refine Cr<|M rfl rfl<|M rfl rfl<|M rfl rfl ?_
 obtain ⟨a9, aL, hm⟩ := bS hm
 obtain ⟨aM, ag, ah⟩ := iS aL
 obtain ⟨ba, bb, bc, bd, be, aN, bf, aO, aP, bg, bh⟩ := OS.get (sz := 1) rfl (by decide) af ah
 obtain ⟨rfl, rfl⟩ := aN
 refine Ts rfl (sI aM rfl rfl ag aP aO sl22)<|Do rfl (uP ag (sz := 1) (a' := j) rfl [] R 0 1 [.string (j)] rfl af ah rfl rfl rfl siz9 rfl (mc rfl mn) (fun cs hsj hh => by obtain ⟨rfl, rfl⟩ := hh; exact ⟨by decide, rfl, rfl⟩)) ?_
 rintro _ _ ⟨aQ, rfl, ai⟩
 refine Tr 9 rfl (v' := .slice c (put e B j).length a) (by simp only [put_length])<|Te<|Cr<|M rfl rfl<|M rfl rfl ?_
 obtain ⟨_, U, hm⟩ := bS hm
 have U := (kS U).2
 refine Ts rfl (sa rfl rfl U) ?_
 obtain ⟨aR, aS, hm⟩ := bS hm
 obtain ⟨m, aT, bi, aU, aj, ak, al⟩ := cutS_some aS
 have aV := OS.lc ai
 refine Ts rfl (al ▸ st_part (l := put e B j) m aT rfl (.inl ⟨rfl, by omega⟩) (.inr ⟨_, _, _, rfl, rfl, aU⟩) aj ak aV sl22) ?_
 obtain ⟨am, aW, an⟩ := OS.sub (sz := 1) rfl ai aj ak
 rw [← al] at an
 refine t_less [] aQ am R rfl aW<|As rfl rfl<|Te<|Ct ?_
 obtain rfl := o1 hm
 exact rM (rs := [.tmp 8]) (vs := [.slice (subA c a m 1) (aR).length (a - m)]) ⟨rfl, trivial⟩ ⟨(subA c a m 1), (a - m), am, rfl, rfl, an⟩ (.refl _) (av.trans aK)

set_option maxRecDepth 20000 in
theorem cStringsSplit (b : Base) (R : Hp) (c : ByteArray) (d : ByteArray) (a : (List ByteArray)) (hm : mStringsSplit c d = some a) :
    CallsG Tryd.prog 35 [.string (c), .string (d)] b (R) (fun v b' hp' => ∃ (e : OA), ∃ (f : Nat), ∃ (g : Hp), sv e a f = v ∧ (g ++ R) = hp' ∧ OS 9 (OT.fr RT.str) b'.w (sv e a f) a g) := by
 refine fE 8 Tryd.func35 rfl Tryd.ntmps35 rfl ?_
 unfold mStringsSplit at hm
 refine Cr<|As rfl rfl<|Te<|Cr<|M rfl rfl<|M rfl rfl ?_
 obtain ⟨h, l, hm⟩ := bS hm
 refine Tg _ rfl call42 rfl (cStringsGenSplit _ _ c d 0 (-1) h l) ?_
 rintro _ o _ m ⟨i, j, k, rfl, rfl, n⟩
 refine t_in1 [] [] k R rfl<|As rfl rfl<|Te<|Ct ?_
 obtain rfl := o1 hm
 exact rM (rs := [.tmp 4]) (vs := [sv i h j]) ⟨rfl, trivial⟩ ⟨i, j, k, rfl, rfl, n⟩ (.refl _) m

set_option maxRecDepth 20000 in
theorem cLineLines (b : Base) (R : Hp) (o : ByteArray) (A : Bool) (j : (List (List ByteArray))) (hm : mLineLines o = some (A, j)) :
    CallsG Tryd.prog 22 [.string (o)] b (R) (fun v b' hp' => ∃ (B : OA), ∃ (C : Nat), ∃ (D : Hp), .tuple #[sv B j C, bv A] = v ∧ (D ++ R) = hp' ∧ OS 22 (OT.fr (RT.list RT.str)) b'.w (sv B j C) j D) := by
 refine fE 31 Tryd.func22 rfl Tryd.ntmps22 rfl ?_
 unfold mLineLines at hm
 refine Cr<|As rfl rfl<|As rfl rfl<|Te<|Cs<|Cr<|M rfl rfl<|Ts rfl (st_seql rfl rfl)<|Te ?_
 refine Cc _ rfl (fun p => ?_) (fun p => ?_)
 rw [if_pos p] at hm
 refine Cr<|As rfl rfl<|As rfl rfl<|Te<|Ct<|Xr ?_
 obtain ⟨rfl, rfl⟩ := some2 hm
 exact rM (rs := [.tmp 2, .tmp 3]) (vs := [sn, bv true]) ⟨rfl, ⟨rfl, trivial⟩⟩ ⟨none, 0, [], rfl, rfl, OS.nil⟩ (.refl _) lr
 rw [if_neg (fun hh => Bool.noConfusion (hh.symm.trans p))] at hm
 refine Ck<|Xn<|Cr<|M rfl rfl ?_
 obtain ⟨⟨E, q⟩, L, hm⟩ := bS hm
 have hm := (unc2E hm)
 refine Do rfl (uW _ call34 rfl (fun w ho => cStringsCutSuffix _ [] o (ByteArray.mk #[10]) E q L) (fun _ _ _ h => h.2.symm)) ?_
 rintro _ _ ⟨⟨_, rfl, _⟩, rfl⟩
 refine M rfl rfl<|Ts rfl (st_extract rfl rfl)<|Ts rfl (st_extract rfl rfl)<|As rfl rfl<|As rfl rfl<|Te<|Cr<|As rfl rfl<|Te<|Cs ?_
 refine Cr<|M rfl rfl ?_
 obtain ⟨k, O, hm⟩ := bS hm
 refine Tg _ rfl call35 rfl (cStringsSplit _ _ E (ByteArray.mk #[10]) k O) ?_
 rintro _ S _ T ⟨U, V, c, rfl, rfl, F⟩
 refine t_in1 [] [] c R rfl<|Ts rfl (sE rfl sl22)<|M rfl rfl<|Te<|Cb ?_
 have an : k.length ≤ 9223372036854775807 := (OS.len F)
 obtain ⟨d, W, X⟩ := bS hm
 refine cS (fun G => fun d => fun m e' hp' => ∃ (e : OA), ∃ (f : Nat), ∃ (a : Hp), [(5, bv q), (6, sv e d f), (17, sv U k V), (18, iv ((k.length : Int))), (19, iv ((G : Int)))] = e' ∧ (a ++ (c ++ R)) = hp' ∧ S.Le m ∧ OS 22 (OT.fr (RT.list RT.str)) m.w (sv e d f) d a) W ⟨none, 0, [], rfl, rfl, lr, OS.nil⟩ (.refl _) ?_ ?_
 rintro G d m _ _ ao aq ⟨e, f, a, rfl, rfl, n, s⟩ H
 unfold mLineLines_L155 at H
 have hm := H
 refine Cr<|Ts rfl (lT rfl rfl (by omega))<|Te<|Cs<|c_cond_t rfl<|Ck<|Xn<|Cs<|Cb<|Cr ?_
 obtain ⟨Y, Z, hm⟩ := bS hm
 obtain ⟨aa, ab, ac⟩ := iS Z
 obtain ⟨ar, au, av, aw, ax, ad, ae, af, ag, ay, az⟩ := OS.get (sz := 1) rfl (by decide) (F.le n) ac
 obtain ⟨rfl, rfl⟩ := ad
 refine Ts rfl (sI aa rfl rfl ab ag af sl22)<|Ts rfl (st_load_rd rfl one9 (fun w ho => ae w _ ho (ss a (List.sublist_append_left _ _)) 0 _ rfl))<|As rfl rfl<|Te<|Cg<|M rfl rfl<|M rfl rfl ?_
 obtain ⟨g, ah, hm⟩ := bS hm
 refine Tg _ rfl call35 rfl (cStringsSplit _ _ Y (ByteArray.mk #[32]) g ah) ?_
 rintro _ aA _ I ⟨t, u, J, rfl, rfl, ai⟩
 refine t_in1 [] [] J (a ++ (c ++ R)) rfl<|Do rfl (u_bslice (el := 22) [(0, sv t g u)] [sv t g u] rfl (fun _ => by kernel_rfl)) ?_
 rintro _ _ ⟨aB, rfl, rfl⟩
 refine t_frz [_] J (a ++ (c ++ R)) rfl ?_
 intro aC x aj
 have ak := OS.frz (l := g) ai x.cells aj
 obtain ⟨_, y, hm⟩ := bS hm
 have y := room_some y
 refine Do rfl (uQ (r := (RT.list RT.str)) (l := d) [_] (c ++ R) [[sv t g u]] [g] rfl (by decide) sl64 inf22 rfl rfl rfl rfl (s.le (I.trans x)) rfl (fun w ho => Rd.own (i := 0) ho rfl) ⟨(RT.list_mk ak), trivial⟩ y) ?_
 rintro _ _ ⟨z, rfl, K⟩
 obtain ⟨al, am, rfl, _⟩ := K.form
 refine As rfl rfl<|Tn<|Xm<|Xn<|Cg<|Ts rfl (sa rfl rfl (by omega))<|M rfl rfl<|Tn<|X2 [_] z c R rfl<|X2 [_] c z R rfl ?_
 obtain rfl := o1 hm
 exact xS ⟨al, am, z, rfl, rfl, ((n.trans (I.trans x))), K⟩ (.cons _ (.refl _))
 rintro m _ _ ⟨e, f, a, rfl, rfl, n, s⟩
 have hm := X
 refine Cr<|Ts rfl (lF rfl rfl (by omega))<|Te<|Cs<|c_cond_f rfl<|Ce<|Xe<|Xe<|Xo<|Xn ?_
 refine Cr<|M rfl rfl<|M rfl rfl<|As rfl rfl<|As rfl rfl<|Te<|Ct ?_
 obtain ⟨rfl, rfl⟩ := some2 hm
 exact rM (rs := [.tmp 2, .tmp 3]) (vs := [sv e d f, bv q]) ⟨rfl, ⟨rfl, trivial⟩⟩ ⟨e, f, a, rfl, rfl, s⟩ (sp a (ss c (.refl _))) (T.trans n)

set_option maxRecDepth 20000 in
theorem cStrconvAtoi (b : Base) (R : Hp) (hG : GOn GT b) (a : ByteArray) (c : Int) (d : Bool) (hm : mStrconvAtoi a = some (c, d)) :
    CallsG Tryd.prog 50 [.string (a)] b (R) (fun v b' hp' => ∃ (e : Value), .tuple #[iv c, e] = v ∧ R = hp' ∧ ErrV e d) := by
 unfold mStrconvAtoi at hm
 exact atoi_c hG hm

set_option maxRecDepth 20000 in
theorem cStrconvItoa (b : Base) (R : Hp) (hG : GOn GT b) (a : Int) (c : ByteArray) (hm : mStrconvItoa a = some c) :
    CallsG Tryd.prog 25 [iv a] b (R) (fun v b' hp' => .string (c) = v ∧ R = hp') := by
 unfold mStrconvItoa at hm
 exact itoa_c hG hm

set_option maxRecDepth 20000 in
theorem cStringsliteHasPrefix (b : Base) (R : Hp) (c : ByteArray) (d : ByteArray) (e : Bool) (hm : mStringsliteHasPrefix c d = some e) :
    CallsG Tryd.prog 79 [.string (c), .string (d)] b (R) (fun v b' hp' => bv e = v ∧ R = hp') := by
 refine fE 18 Tryd.func79 rfl Tryd.ntmps79 rfl ?_
 unfold mStringsliteHasPrefix at hm
 refine Cr<|As rfl rfl<|Te ?_
 obtain ⟨f, h, i⟩ := bS hm
 refine Cj (fun g e' hp' => [(4, bv f)] = e' ∧ R = hp' ∧ b.Le g) ?_ ?_
 have hm := h
 refine Cg<|M rfl rfl<|Ts rfl (st_slen rfl str9)<|M rfl rfl<|Ts rfl (st_slen rfl str9) ?_
 refine Tb rfl (q6 rfl rfl) (fun a => ?_) (fun a => ?_)
 rw [if_pos a] at hm
 refine M rfl rfl<|Ys 10 rfl rfl rfl<|M rfl rfl<|Ys 10 rfl rfl rfl<|M rfl rfl<|Ys 10 rfl rfl rfl<|Ts rfl (st_slen rfl str9)<|Ys 10 rfl rfl rfl ?_
 obtain ⟨l, j, hm⟩ := bS hm
 refine Ts rfl (st_scut rfl (.inl ⟨rfl, rfl⟩) (.inr ⟨_, _, rfl, rfl⟩) j str9)<|Ys 10 rfl rfl rfl<|M rfl rfl<|Ys 10 rfl rfl rfl<|Ts rfl (st_seql rfl rfl)<|Ts rfl (pT rfl rfl)<|As rfl rfl<|Tn ?_
 obtain rfl := o1 hm
 exact xJ ⟨rfl, rfl, lr⟩ (.refl _)
 rw [if_neg a] at hm
 refine M rfl rfl<|No 10 rfl rfl rfl rfl rfl<|No 10 rfl rfl rfl rfl rfl<|No 10 rfl rfl rfl rfl rfl<|No 10 rfl rfl rfl rfl rfl<|No 10 rfl rfl rfl rfl rfl<|No 10 rfl rfl rfl rfl rfl<|Ts rfl (pF rfl rfl)<|As rfl rfl<|Tn ?_
 obtain rfl := o1 hm
 exact xJ ⟨rfl, rfl, lr⟩ (.refl _)
 rintro g _ _ ⟨rfl, rfl, k⟩
 have hm := i
 refine Ct ?_
 obtain rfl := o1 hm
 exact rM (rs := [.tmp 4]) (vs := [bv f]) ⟨rfl, trivial⟩ ⟨rfl, rfl⟩ (.refl _) k

set_option maxRecDepth 20000 in
theorem cStringsliteTrimPrefix (b : Base) (R : Hp) (a : ByteArray) (c : ByteArray) (e : ByteArray) (hm : mStringsliteTrimPrefix a c = some e) :
    CallsG Tryd.prog 63 [.string (a), .string (c)] b (R) (fun v b' hp' => .string (e) = v ∧ R = hp') := by
 refine fE 13 Tryd.func63 rfl Tryd.ntmps63 rfl ?_
 unfold mStringsliteTrimPrefix at hm
 refine Cr<|As rfl rfl<|Te<|Cs<|Cr<|M rfl rfl<|M rfl rfl ?_
 obtain ⟨f, g, hm⟩ := bS hm
 refine Do rfl (uW _ call79 rfl (fun w ho => cStringsliteHasPrefix _ [] a c f g) (fun _ _ _ h => h.2.symm)) ?_
 rintro _ _ ⟨⟨_, rfl, _⟩, rfl⟩
 refine Te ?_
 refine Cc _ rfl (fun d => ?_) (fun d => ?_)
 rw [if_pos d] at hm
 refine Cr<|M rfl rfl<|M rfl rfl<|Ts rfl (st_slen rfl str9) ?_
 obtain ⟨i, j, hm⟩ := bS hm
 refine Ts rfl (st_scut rfl (.inr ⟨_, _, rfl, rfl⟩) (.inl ⟨rfl, rfl⟩) j str9)<|As rfl rfl<|Te<|Ct<|Xr ?_
 obtain rfl := o1 hm
 exact rM (rs := [.tmp 4]) (vs := [.string (i)]) ⟨rfl, trivial⟩ ⟨rfl, rfl⟩ (.refl _) lr
 rw [if_neg (fun hh => Bool.noConfusion (hh.symm.trans d))] at hm
 refine Ck<|Xn<|Cr<|M rfl rfl<|As rfl rfl<|Te<|Ct ?_
 obtain rfl := o1 hm
 exact rM (rs := [.tmp 4]) (vs := [.string (a)]) ⟨rfl, trivial⟩ ⟨rfl, rfl⟩ (.refl _) lr

set_option maxRecDepth 20000 in
theorem cStringsTrimPrefix (b : Base) (R : Hp) (a : ByteArray) (c : ByteArray) (d : ByteArray) (hm : mStringsTrimPrefix a c = some d) :
    CallsG Tryd.prog 51 [.string (a), .string (c)] b (R) (fun v b' hp' => .string (d) = v ∧ R = hp') := by
 refine fE 8 Tryd.func51 rfl Tryd.ntmps51 rfl ?_
 unfold mStringsTrimPrefix at hm
 refine Cr<|As rfl rfl<|Te<|Cr<|M rfl rfl<|M rfl rfl ?_
 obtain ⟨e, f, hm⟩ := bS hm
 refine Do rfl (uW _ call63 rfl (fun w ho => cStringsliteTrimPrefix _ [] a c e f) (fun _ _ _ h => h.2.symm)) ?_
 rintro _ _ ⟨⟨_, rfl, _⟩, rfl⟩
 refine As rfl rfl<|Te<|Ct ?_
 obtain rfl := o1 hm
 exact rM (rs := [.tmp 4]) (vs := [.string (e)]) ⟨rfl, trivial⟩ ⟨rfl, rfl⟩ (.refl _) lr

set_option maxRecDepth 20000 in
theorem cLineNumber (b : Base) (R : Hp) (hG : GOn GT b) (a : ByteArray) (f : Int) (g : Bool) (hm : mLineNumber a = some (f, g)) :
    CallsG Tryd.prog 43 [.string (a)] b (R) (fun v b' hp' => .tuple #[iv f, bv g] = v ∧ R = hp') := by
 refine fE 26 Tryd.func43 rfl Tryd.ntmps43 rfl ?_
 unfold mLineNumber at hm
 refine Cr<|As rfl rfl<|As rfl rfl<|Te<|Cr<|M rfl rfl ?_
 obtain ⟨⟨e, i⟩, n, hm⟩ := bS hm
 have hm := (unc2E hm)
 refine Tg _ rfl call50 rfl (cStrconvAtoi _ _ (hG.le lr) a e i n) ?_
 rintro _ o _ j ⟨y, rfl, rfl, p⟩
 refine M rfl rfl<|Ts rfl (st_extract rfl rfl)<|Ts rfl (st_extract rfl rfl)<|As rfl rfl<|As rfl rfl<|Te ?_
 obtain ⟨k, q, r⟩ := bS hm
 refine Cj (fun l e' hp' => [(2, iv e), (3, bv k)] = e' ∧ R = hp' ∧ o.Le l) ?_ ?_
 have hm := q
 refine Cg<|M rfl rfl<|M rfl rfl<|Ts rfl (st_eqlE rfl p ift55) ?_
 rcases Bool.eq_false_or_eq_true i with c | c
 rw [if_pos c] at hm
 refine Tr 13 rfl (v' := .bool true) (by rw [c] <;> rfl)<|M rfl rfl<|Ys 14 rfl rfl rfl<|M rfl rfl<|Ys 14 rfl rfl rfl ?_
 obtain ⟨m, s, hm⟩ := bS hm
 refine Do rfl (uW _ call25 rfl (fun w ho => cStrconvItoa _ [] ((hG.le j).old ho) e m s) (fun _ _ _ h => h.2.symm)) ?_
 rintro _ _ ⟨⟨_, rfl, _⟩, rfl⟩
 refine Ys 14 rfl rfl rfl<|M rfl rfl<|Ys 14 rfl rfl rfl<|Ts rfl (st_seql rfl rfl) ?_
 rcases Bool.eq_false_or_eq_true (sEq m a) with d | d
 rw [if_pos d] at hm
 refine Tr 18 rfl (v' := .bool true) (by rw [d] <;> rfl)<|Ts rfl (pT rfl rfl)<|M rfl rfl<|Ys 20 rfl rfl rfl<|M rfl rfl<|Ys 20 rfl rfl rfl ?_
 obtain ⟨t, u, hm⟩ := bS hm
 refine Do rfl (uW _ call51 rfl (fun w ho => cStringsTrimPrefix _ [] a (ByteArray.mk #[45]) t u) (fun _ _ _ h => h.2.symm)) ?_
 rintro _ _ ⟨⟨_, rfl, _⟩, rfl⟩
 refine Ys 20 rfl rfl rfl<|Ts rfl (st_slen rfl str9)<|Ys 20 rfl rfl rfl<|Ts rfl (q4 rfl rfl)<|Ts rfl (pT rfl rfl)<|As rfl rfl<|As rfl rfl<|Tn ?_
 obtain rfl := o1 hm
 exact xJ ⟨rfl, rfl, lr⟩ (.refl _)
 rw [if_neg (fun hh => Bool.noConfusion (hh.symm.trans d))] at hm
 refine Tr 18 rfl (v' := .bool false) (by rw [d] <;> rfl)<|Ts rfl (pT rfl rfl)<|M rfl rfl<|No 20 rfl rfl rfl rfl rfl<|No 20 rfl rfl rfl rfl rfl<|No 20 rfl rfl rfl rfl rfl<|No 20 rfl rfl rfl rfl rfl<|Ts rfl (pF rfl rfl)<|As rfl rfl<|As rfl rfl ?_
 refine Tn ?_
 obtain rfl := o1 hm
 exact xJ ⟨rfl, rfl, lr⟩ (.refl _)
 rw [if_neg (fun hh => Bool.noConfusion (hh.symm.trans c))] at hm
 refine Tr 13 rfl (v' := .bool false) (by rw [c] <;> rfl)<|M rfl rfl<|No 14 rfl rfl rfl rfl rfl<|No 14 rfl rfl rfl rfl rfl<|No 14 rfl rfl rfl rfl rfl<|No 14 rfl rfl rfl rfl rfl<|Ts rfl (pF rfl rfl)<|M rfl rfl<|No 20 rfl rfl rfl rfl rfl<|No 20 rfl rfl rfl rfl rfl ?_
 refine No 20 rfl rfl rfl rfl rfl<|No 20 rfl rfl rfl rfl rfl<|Ts rfl (pF rfl rfl)<|As rfl rfl<|As rfl rfl<|Tn ?_
 obtain rfl := o1 hm
 exact xJ ⟨rfl, rfl, lr⟩ (.refl _)
 rintro l _ _ ⟨rfl, rfl, x⟩
 have hm := r
 refine Ct ?_
 obtain ⟨rfl, rfl⟩ := some2 hm
 exact rM (rs := [.tmp 2, .tmp 3]) (vs := [iv e, bv k]) ⟨rfl, ⟨rfl, trivial⟩⟩ ⟨rfl, rfl⟩ (.refl _) (j.trans x)

set_option maxRecDepth 20000 in
theorem cLineNumbers (b : Base) (R : Hp) (hG : GOn GT b) (c : (List ByteArray)) (o : OA) (p : Nat) (u : FZ RT.str b.w o p c) (x : Bool) (k : (List Int)) (hm : mLineNumbers c = some (x, k)) :
    CallsG Tryd.prog 36 [sv o c p] b (R) (fun v b' hp' => ∃ (y : OA), ∃ (z : Nat), ∃ (A : Hp), .tuple #[sv y k z, bv x] = v ∧ (A ++ R) = hp' ∧ OS 3 (OT.fr rI) b'.w (sv y k z) k A) := by
 refine fE 28 Tryd.func36 rfl Tryd.ntmps36 rfl ?_
 unfold mLineNumbers at hm
 refine Cr<|As rfl rfl<|As rfl rfl<|Te<|Cr<|As rfl rfl<|Te<|Cs<|Cr<|M rfl rfl ?_
 refine Ts rfl (sE rfl sl22)<|M rfl rfl<|Te<|Cb ?_
 have ab : c.length ≤ 9223372036854775807 := (FZ.bd u)
 obtain ⟨ac, E, m⟩ := bS hm
 refine cF (fun B => fun a => fun n e' hp' => ∃ (d : OA), ∃ (e : Nat), ∃ (f : Hp), [(4, sv d a e), (9, sv o c p), (10, iv ((c.length : Int))), (11, iv ((B : Int)))] = e' ∧ (f ++ R) = hp' ∧ b.Le n ∧ OS 3 (OT.fr rI) n.w (sv d a e) a f) E ⟨none, 0, [], rfl, rfl, lr, OS.nil⟩ (.refl _) ?_ ?_
 rintro B a n _ _ ad ae ⟨d, e, f, rfl, rfl, g, q⟩ C F
 unfold mLineNumbers_L95 at C
 have hm := C
 refine Cr<|Ts rfl (lT rfl rfl (by omega))<|Te<|Cs<|c_cond_t rfl<|Ck<|Xn<|Cs<|Cb<|Cr ?_
 obtain ⟨G, H, hm⟩ := bS hm
 obtain ⟨I, J, K⟩ := iS H
 obtain ⟨af, L, O, S, T⟩ := FZ.get (sz := 1) rfl (by decide) (u.le g) K
 obtain rfl := L
 refine Ts rfl (sI I rfl rfl J T S sl22)<|Ts rfl (sO rfl one9 (O 0 _ rfl))<|As rfl rfl<|Te<|Cr<|M rfl rfl ?_
 obtain ⟨⟨j, U⟩, V, hm⟩ := bS hm
 have hm := (unc2E hm)
 refine Do rfl (uW _ call43 rfl (fun w ho => cLineNumber _ [] ((hG.le g).old ho) G j U V) (fun _ _ _ h => h.2.symm)) ?_
 rintro _ _ ⟨⟨_, rfl, _⟩, rfl⟩
 refine M rfl rfl<|Ts rfl (st_extract rfl rfl)<|Ts rfl (st_extract rfl rfl)<|As rfl rfl<|As rfl rfl<|Te<|Cs<|Cr<|M rfl rfl<|Ts rfl (sn2 rfl) ?_
 refine Te ?_
 refine Cc _ rfl (fun s => ?_) (fun s => ?_)
 rw [if_neg (fun hh => Bool.noConfusion (hh.symm.trans (nt s)))] at hm
 refine Cr<|As rfl rfl<|As rfl rfl<|Te<|Ct<|Xr<|Xb<|Xr<|Xr<|Xb ?_
 refine Xr ?_
 have W := F _ (Option.some.inj hm).symm
 rw [W] at m
 have hm := elimR m
 obtain ⟨rfl, rfl⟩ := some2 hm
 exact rM (rs := [.tmp 2, .tmp 3]) (vs := [sn, bv false]) ⟨rfl, ⟨rfl, trivial⟩⟩ ⟨none, 0, [], rfl, rfl, OS.nil⟩ (ss f (.refl _)) g
 rw [if_pos (nf s)] at hm
 refine Ck<|Xn<|Cg<|M rfl rfl<|M rfl rfl<|Do rfl (u_bslice (el := 3) [(0, iv j)] [iv j] rfl (fun _ => by kernel_rfl)) ?_
 rintro _ _ ⟨ag, rfl, rfl⟩
 obtain ⟨_, t, hm⟩ := bS hm
 have t := room_some t
 refine Do rfl (uQ (r := rI) (l := a) [_] R [[iv j]] [j] rfl (by decide) sl88 inf3 rfl rfl rfl rfl q rfl (fun w ho => Rd.own (i := 0) ho rfl) ⟨rfl, trivial⟩ t) ?_
 rintro _ _ ⟨X, rfl, D⟩
 obtain ⟨Y, Z, rfl, _⟩ := D.form
 refine As rfl rfl<|Tn<|Xm<|Xn<|Cg<|Ts rfl (sa rfl rfl (by omega))<|M rfl rfl<|Tn ?_
 exact xM hm ⟨Y, Z, X, rfl, rfl, (g), D⟩ (.cons _ (.refl _))
 rintro a n _ _ ⟨d, e, f, rfl, rfl, g, q⟩ aa
 rw [aa] at m
 have hm := elimL m
 refine Cr<|Ts rfl (lF rfl rfl (by omega))<|Te<|Cs<|c_cond_f rfl<|Ce<|Xe<|Xe<|Xo<|Xn ?_
 refine Cr<|M rfl rfl<|As rfl rfl<|As rfl rfl<|Te<|Ct ?_
 obtain ⟨rfl, rfl⟩ := some2 hm
 exact rM (rs := [.tmp 2, .tmp 3]) (vs := [sv d a e, bv true]) ⟨rfl, ⟨rfl, trivial⟩⟩ ⟨d, e, f, rfl, rfl, q⟩ (.refl _) g

set_option maxRecDepth 20000 in
theorem cLineLine (b : Base) (R : Hp) (hG : GOn GT b) (a8 : (List ByteArray)) (E : (List ByteArray)) (F : (List ApiSection)) (G : (List ApiLink)) (H : (List ApiSignal)) (I : (List ApiGate)) (x : Nat) (az : OA) (J : Nat) (o : OA) (y : Nat) (a : Hp) (p : OA) (z : Nat) (c : Hp) (q : OA) (A : Nat) (d : Hp) (s : OA) (B : Nat) (e : Hp) (t : OA) (C : Nat) (f : Hp) (bp : FZ RT.str b.w az J a8) (S : OS 9 (OT.fr RT.str) b.w (sv o E y) E a) (ag : (o = none ↔ E = [])) (T : OS 39 (OT.fr rApiSection) b.w (sv p F z) F c) (ah : (p = none ↔ F = [])) (U : OS 42 (OT.fr rApiLink) b.w (sv q G A) G d) (ai : (q = none ↔ G = [])) (V : OS 45 (OT.fr rApiSignal) b.w (sv s H B) H e) (aj : (s = none ↔ H = [])) (W : OS 48 (OT.fr rApiGate) b.w (sv t I C) I f) (ak : (t = none ↔ I = [])) (b6 : Int) (aM : (List ByteArray)) (aN : (List ApiSection)) (aO : (List ApiLink)) (aP : (List ApiSignal)) (aQ : (List ApiGate)) (hm : mLineLine a8 E F G H I = some (b6, aM, aN, aO, aP, aQ)) :
    CallsG Tryd.prog 23 [pb x, sv az a8 J] b ((x, Cl 28 [sv o E y, sv p F z, sv q G A, sv s H B, sv t I C]) :: (a ++ (c ++ (d ++ (e ++ (f ++ R)))))) (fun v b' hp' => ∃ (bq : OA), ∃ (b7 : Nat), ∃ (b8 : Hp), ∃ (br : OA), ∃ (b9 : Nat), ∃ (ca : Hp), ∃ (bs : OA), ∃ (cb : Nat), ∃ (cc : Hp), ∃ (bt : OA), ∃ (cd : Nat), ∃ (ce : Hp), ∃ (bu : OA), ∃ (cf : Nat), ∃ (cg : Hp), iv b6 = v ∧ (x, Cl 28 [sv bq aM b7, sv br aN b9, sv bs aO cb, sv bt aP cd, sv bu aQ cf]) :: (b8 ++ (ca ++ (cc ++ (ce ++ (cg ++ R))))) = hp' ∧ OS 9 (OT.fr RT.str) b'.w (sv bq aM b7) aM b8 ∧ (bq = none ↔ aM = []) ∧ OS 39 (OT.fr rApiSection) b'.w (sv br aN b9) aN ca ∧ (br = none ↔ aN = []) ∧ OS 42 (OT.fr rApiLink) b'.w (sv bs aO cb) aO cc ∧ (bs = none ↔ aO = []) ∧ OS 45 (OT.fr rApiSignal) b'.w (sv bt aP cd) aP ce ∧ (bt = none ↔ aP = []) ∧ OS 48 (OT.fr rApiGate) b'.w (sv bu aQ cf) aQ cg ∧ (bu = none ↔ aQ = [])) := by
 refine fE 223 Tryd.func23 rfl Tryd.ntmps23 rfl ?_
 unfold mLineLine at hm
 refine Cr<|As rfl rfl<|Te<|Cs ?_
 obtain ⟨X, cu, hm⟩ := bS hm
 obtain ⟨a9, cv, hm⟩ := bS hm
 refine Di mixed (.refl _)<|E0 0 rfl (sM rfl) ?_
 obtain ⟨cw, cx, cy⟩ := iS cu
 obtain ⟨hE, cz, cA, cB, cC⟩ := FZ.get (sz := 1) rfl (by decide) bp cy
 obtain rfl := cz
 refine E0 1 rfl (sI cw rfl rfl cx cC cB sl22)<|Es 2 rfl (sO rfl one9 (cA 0 _ rfl))<|E0 3 rfl (sM rfl) ?_
 obtain ⟨K, cD, cE, hF, ch, ci, cj⟩ := cutS_some cv
 have aA := FZ.sub (sz := 1) rfl bp ch ci
 have cG := bp.1.1
 rw [← cj] at aA
 refine E0 4 rfl (cj ▸ st_part (l := a8) K cD rfl (.inr ⟨_, _, _, rfl, rfl, cE⟩) (.inl ⟨rfl, by omega⟩) ch ci cG sl22)<|E0 5 rfl (sA rfl)<|E0 6 rfl (sA rfl)<|Eo<|Dd (by kernel_rfl)<|Xn<|Cs<|Cr<|M rfl rfl<|Ts rfl (st_seql rfl rfl) ?_
 refine Te ?_
 refine Cc _ rfl (fun bw => ?_) (fun bw => ?_)
 rw [if_pos bw] at hm
 refine Cs ?_
 obtain ⟨cH, cI, cJ⟩ := bS hm
 refine Cj (fun bx e' hp' => [(0, pb x), (6, .slice (subA az J K 1) (a9).length (J - K)), (30, bv cH)] = e' ∧ (x, Cl 28 [sv o E y, sv p F z, sv q G A, sv s H B, sv t I C]) :: (a ++ (c ++ (d ++ (e ++ (f ++ R))))) = hp' ∧ b.Le bx) ?_ ?_
 have hm := cI
 refine Cg<|M rfl rfl<|Ts rfl (sE rfl sl22) ?_
 refine Tb rfl (q2 rfl rfl) (fun bz => ?_) (fun bz => ?_)
 rw [if_pos bz] at hm
 refine M rfl rfl<|No 25 rfl rfl rfl rfl rfl<|No 25 rfl rfl rfl rfl rfl<|No 25 rfl rfl rfl rfl rfl<|No 25 rfl rfl rfl rfl rfl<|Ts rfl (pT rfl rfl)<|Tn ?_
 obtain rfl := o1 hm
 refine X5 [_] a c d e f R rfl<|X5 [_] f a c d e R rfl<|X5 [_] e f a c d R rfl<|X5 [_] d e f a c R rfl<|X5 [_] c d e f a R rfl ?_
 exact xJ ⟨rfl, rfl, lr⟩ (.refl _)
 rw [if_neg bz] at hm
 refine M rfl rfl<|Ys 25 rfl rfl rfl<|M rfl rfl<|Ys 25 rfl rfl rfl ?_
 obtain ⟨hH, cK, hm⟩ := bS hm
 obtain ⟨cM, cN, cO⟩ := iS cK
 obtain ⟨hI, cP, cQ, cR, cT⟩ := FZ.get (sz := 1) rfl (by decide) aA cO
 obtain rfl := cP
 refine Ts rfl (sI cM rfl rfl cN cT cR sl22)<|Ys 25 rfl rfl rfl<|Ts rfl (sO rfl one9 (cQ 0 _ rfl))<|Ys 25 rfl rfl rfl<|Ts rfl (st_seql rfl rfl)<|Ts rfl (pF rfl rfl)<|Tn ?_
 obtain rfl := o1 hm
 refine X5 [_] a c d e f R rfl<|X5 [_] f a c d e R rfl<|X5 [_] e f a c d R rfl<|X5 [_] d e f a c R rfl<|X5 [_] c d e f a R rfl ?_
 exact xJ ⟨rfl, rfl, lr⟩ (.refl _)
 rintro bx _ _ ⟨rfl, rfl, L⟩
 have hm := cJ
 refine Cc _ rfl (fun bA => ?_) (fun bA => ?_)
 rw [if_pos bA] at hm
 refine Cr<|As rfl rfl<|Te<|Ct<|Xr<|Xr ?_
 obtain ⟨rfl, rfl, rfl, rfl, rfl, rfl⟩ := some6 hm
 refine X5 [_] a c d e f R rfl<|X5 [_] f a c d e R rfl<|X5 [_] e f a c d R rfl<|X5 [_] d e f a c R rfl<|X5 [_] c d e f a R rfl ?_
 have cU := (S.le L)
 have cV := (T.le L)
 have cW := (U.le L)
 have cX := (V.le L)
 have cY := (W.le L)
 exact rM (rs := [.tmp 4]) (vs := [iv ((-1))]) ⟨rfl, trivial⟩ ⟨o, y, a, p, z, c, q, A, d, s, B, e, t, C, f, rfl, rfl, cU, ag, cV, ah, cW, ai, cX, aj, cY, ak⟩ (.refl _) L
 rw [if_neg (fun hh => Bool.noConfusion (hh.symm.trans bA))] at hm
 refine Ck<|Xn ?_
 obtain ⟨ba, cZ, c0⟩ := bS hm
 refine Cj (fun bB e' hp' => ∃ (aR : OA), ∃ (bb : Nat), ∃ (Y : Hp), [] = e' ∧ (x, Cl 28 [sv aR ba bb, sv p F z, sv q G A, sv s H B, sv t I C]) :: (Y ++ (c ++ (d ++ (e ++ (f ++ R))))) = hp' ∧ bx.Le bB ∧ OS 9 (OT.fr RT.str) bB.w (sv aR ba bb) ba Y ∧ (aR = none ↔ ba = [])) ?_ ?_
 have hm := cZ
 obtain ⟨bc, c1, hm⟩ := bS hm
 obtain ⟨_, bC, hm⟩ := bS hm
 refine Di mixed (.cons_cons _ (ss a (.refl _)))<|E0 0 rfl (sM rfl)<|E0 1 rfl (sM rfl)<|E0 2 rfl (sN rfl)<|E0 3 rfl (sF rfl fld28_0)<|Es 4 rfl (sL 0 rfl one22 rfl rfl)<|E0 5 rfl (sM rfl) ?_
 obtain ⟨c2, c3, c5⟩ := iS c1
 obtain ⟨hJ, c6, c7, c8, da⟩ := FZ.get (sz := 1) rfl (by decide) (aA.le L) c5
 obtain rfl := c6
 refine E0 6 rfl (sI c2 rfl rfl c3 da c8 sl22)<|Es 7 rfl (sO rfl one9 (c7 0 _ rfl))<|Eo<|Da [8] (by kernel_rfl) rfl ?_
 refine Rd2 lr rfl rfl (u_bslice (el := 9) [(0, .string (bc))] [.string (bc)] rfl (fun _ => by kernel_rfl)) ?_ ?_
 rintro _ _ ⟨hK, rfl, rfl⟩
 refine ⟨.inr (.cons _ (.cons_cons _ (ss a (.refl _)))), ?_⟩
 have bC := room_some bC
 refine Da [9] (by kernel_rfl) rfl ?_
 refine Rd2 lr rfl rfl (uQ (r := RT.str) (l := E) [_, _] (c ++ (d ++ (e ++ (f ++ R)))) [[.string (bc)]] [bc] rfl (by decide) sl22 inf9 rfl rfl rfl rfl (S.le L) rfl (fun w ho => Rd.own (i := 0) ho rfl) ⟨rfl, trivial⟩ bC) ?_ ?_
 rintro _ _ ⟨al, rfl, bD⟩
 obtain ⟨db, dc, rfl, _⟩ := bD.form
 refine ⟨.inr (.cons _ (.cons_cons _ (ss al (.refl _)))), ?_⟩
 refine Ei lr (.cons _ (.cons_cons _ (ss al (.refl _))))<|E0 10 rfl (sN rfl)<|E0 11 rfl (sF rfl fld28_0)<|Eo<|Da [12] (by kernel_rfl) rfl ?_
 refine Rd2 lr rfl rfl (uS 1 rfl rfl siz22 rfl rfl (by simp)) ?_ ?_
 rintro _ _ rfl
 refine ⟨.inl (by kernel_rfl), ?_⟩
 refine Dd (by kernel_rfl) ?_
 obtain rfl := o1 hm
 refine Xp 1 rfl<|X5 [_, _] al c d e f R rfl<|X5 [_, _] f al c d e R rfl<|X5 [_, _] e f al c d R rfl<|X5 [_, _] d e f al c R rfl<|X5 [_, _] c d e f al R rfl ?_
 exact xJ ⟨db, dc, al, rfl, rfl, lr, bD, (OS.nz bD (by simp))⟩ (.cons_cons _ (.cons _ (.refl _)))
 exact Rn
 exact Rn
 exact Rn
 rintro bB _ _ ⟨aR, bb, Y, rfl, rfl, aS, dd, de⟩
 have hm := c0
 refine Cr<|As rfl rfl<|Te<|Ct<|Xr ?_
 obtain ⟨rfl, rfl, rfl, rfl, rfl, rfl⟩ := some6 hm
 refine X5 [_] Y c d e f R rfl<|X5 [_] f Y c d e R rfl<|X5 [_] e f Y c d R rfl<|X5 [_] d e f Y c R rfl<|X5 [_] c d e f Y R rfl ?_
 have df := (T.le (L.trans aS))
 have dg := (U.le (L.trans aS))
 have dh := (V.le (L.trans aS))
 have di := (W.le (L.trans aS))
 exact rM (rs := [.tmp 4]) (vs := [iv 0]) ⟨rfl, trivial⟩ ⟨aR, bb, Y, p, z, c, q, A, d, s, B, e, t, C, f, rfl, rfl, dd, de, df, ah, dg, ai, dh, aj, di, ak⟩ (.refl _) (L.trans aS)
 rw [if_neg (fun hh => Bool.noConfusion (hh.symm.trans bw))] at hm
 refine Ck<|Xn<|Cr<|Do rfl (uA [iv 0, iv 0, iv 0, iv 0, iv 0, iv 0, .bool false] zero39 rfl) ?_
 rintro _ _ ⟨O, rfl, rfl⟩
 refine Te ?_
 obtain ⟨dj, dk, dl⟩ := bS hm
 refine Cj (fun bd e' hp' => [(0, pb x), (5, .string (X)), (6, .slice (subA az J K 1) (a9).length (J - K)), (7, pb O), (8, bv dj)] = e' ∧ (x, Cl 28 [sv o E y, sv p F z, sv q G A, sv s H B, sv t I C]) :: (O, Cl 39 [iv 0, iv 0, iv 0, iv 0, iv 0, iv 0, bv false]) :: (a ++ (c ++ (d ++ (e ++ (f ++ R))))) = hp' ∧ b.Le bd) ?_ ?_
 have hm := dk
 refine Cg<|M rfl rfl<|Ts rfl (st_seql rfl rfl) ?_
 rcases Bool.eq_false_or_eq_true (sEq X (ByteArray.mk #[112, 108, 97, 105, 110])) with aT | aT
 rw [if_pos aT] at hm
 refine Tr 44 rfl (v' := .bool true) (by rw [aT] <;> rfl)<|M rfl rfl<|No 45 rfl rfl rfl rfl rfl<|No 45 rfl rfl rfl rfl rfl<|Ts rfl (pT rfl rfl)<|M rfl rfl<|No 49 rfl rfl rfl rfl rfl<|No 49 rfl rfl rfl rfl rfl<|Ts rfl (pT rfl rfl)<|As rfl rfl ?_
 refine Tn ?_
 obtain rfl := o1 hm
 refine Xp 1 rfl<|X5 [_, _] a c d e f R rfl<|X5 [_, _] f a c d e R rfl<|X5 [_, _] e f a c d R rfl<|X5 [_, _] d e f a c R rfl<|X5 [_, _] c d e f a R rfl ?_
 exact xJ ⟨rfl, rfl, lr⟩ (.refl _)
 rw [if_neg (fun hh => Bool.noConfusion (hh.symm.trans aT))] at hm
 refine Tr 44 rfl (v' := .bool false) (by rw [aT] <;> rfl)<|M rfl rfl<|Ys 45 rfl rfl rfl<|M rfl rfl<|Ys 45 rfl rfl rfl<|Ts rfl (st_seql rfl rfl) ?_
 rcases Bool.eq_false_or_eq_true (sEq X (ByteArray.mk #[112, 111, 105, 110, 116, 115])) with aU | aU
 rw [if_pos aU] at hm
 refine Tr 47 rfl (v' := .bool true) (by rw [aU] <;> rfl)<|Ts rfl (pF rfl rfl)<|M rfl rfl<|No 49 rfl rfl rfl rfl rfl<|No 49 rfl rfl rfl rfl rfl<|Ts rfl (pT rfl rfl)<|As rfl rfl<|Tn ?_
 obtain rfl := o1 hm
 refine Xp 1 rfl<|X5 [_, _] a c d e f R rfl<|X5 [_, _] f a c d e R rfl<|X5 [_, _] e f a c d R rfl<|X5 [_, _] d e f a c R rfl<|X5 [_, _] c d e f a R rfl ?_
 exact xJ ⟨rfl, rfl, lr⟩ (.refl _)
 rw [if_neg (fun hh => Bool.noConfusion (hh.symm.trans aU))] at hm
 refine Tr 47 rfl (v' := .bool false) (by rw [aU] <;> rfl)<|Ts rfl (pF rfl rfl)<|M rfl rfl<|Ys 49 rfl rfl rfl<|M rfl rfl<|Ys 49 rfl rfl rfl<|Ts rfl (st_seql rfl rfl)<|Ts rfl (pF rfl rfl)<|As rfl rfl<|Tn ?_
 obtain rfl := o1 hm
 refine Xp 1 rfl<|X5 [_, _] a c d e f R rfl<|X5 [_, _] f a c d e R rfl<|X5 [_, _] e f a c d R rfl<|X5 [_, _] d e f a c R rfl<|X5 [_, _] c d e f a R rfl ?_
 exact xJ ⟨rfl, rfl, lr⟩ (.refl _)
 rintro bd _ _ ⟨rfl, rfl, j⟩
 have hm := dl
 obtain ⟨dm, dn, aG⟩ := bS hm
 refine Cj (fun bE e' hp' => ∃ (aV : (List ByteArray)), ∃ (Z : Bool), ∃ (be : OA), ∃ (bf : Nat), [(0, pb x), (5, .string (X)), (6, sv be aV bf), (7, pb O)] = e' ∧ (x, Cl 28 [sv o E y, sv p F z, sv q G A, sv s H B, sv t I C]) :: (O, Cl 39 [iv 0, iv 0, iv 0, iv 0, iv 0, iv 0, bv Z]) :: (a ++ (c ++ (d ++ (e ++ (f ++ R))))) = hp' ∧ bd.Le bE ∧ FZ RT.str bE.w be bf aV ∧ dm = .inl (aV, Z)) ?_ ?_
 have hm := dn
 refine Cr<|M rfl rfl<|Te ?_
 refine Cc _ rfl (fun bF => ?_) (fun bF => ?_)
 rw [if_pos bF] at hm
 refine Cs<|Cr<|M rfl rfl<|Ts rfl (sE rfl sl22)<|Ts rfl (q1 rfl rfl)<|Te ?_
 refine Cc _ rfl (fun bG => ?_) (fun bG => ?_)
 rw [if_pos (of_decide_eq_true bG)] at hm
 refine Cr<|As rfl rfl<|Te<|Ct<|Xr<|Xr ?_
 have dp := (Option.some.inj hm).symm
 rw [dp] at aG
 have hm := elimR aG
 obtain ⟨rfl, rfl, rfl, rfl, rfl, rfl⟩ := some6 hm
 refine X5 [_, _] a c d e f R rfl<|X5 [_, _] f a c d e R rfl<|X5 [_, _] e f a c d R rfl<|X5 [_, _] d e f a c R rfl<|X5 [_, _] c d e f a R rfl ?_
 have dq := (S.le j)
 have dr := (T.le j)
 have ds := (U.le j)
 have dt := (V.le j)
 have du := (W.le j)
 exact rM (rs := [.tmp 4]) (vs := [iv ((-1))]) ⟨rfl, trivial⟩ ⟨o, y, a, p, z, c, q, A, d, s, B, e, t, C, f, rfl, rfl, dq, ag, dr, ah, ds, ai, dt, aj, du, ak⟩ (.cons_cons _ (.cons _ (.refl _))) j
 rw [if_neg (of_decide_eq_false bG)] at hm
 refine Ck<|Xn<|Cr<|M rfl rfl<|M rfl rfl<|Ts rfl (sE rfl sl22) ?_
 obtain ⟨_, bH, hm⟩ := bS hm
 have bH := (kS bH).2
 refine Ts rfl (sb rfl rfl bH) ?_
 obtain ⟨bI, dv, hm⟩ := bS hm
 obtain ⟨dw, dx, dy⟩ := iS dv
 obtain ⟨hL, dz, dA, dB, dC⟩ := FZ.get (sz := 1) rfl (by decide) (aA.le j) dy
 obtain rfl := dz
 refine Ts rfl (sI dw rfl rfl dx dC dB sl22)<|Ts rfl (sO rfl one9 (dA 0 _ rfl))<|As rfl rfl<|Te<|Cr<|M rfl rfl<|M rfl rfl<|Ts rfl (sE rfl sl22) ?_
 obtain ⟨_, bJ, hm⟩ := bS hm
 have bJ := (kS bJ).2
 refine Ts rfl (sb rfl rfl bJ) ?_
 obtain ⟨ck, dD, hm⟩ := bS hm
 obtain ⟨aW, dE, hM, dF, cl, cm, cn⟩ := cutS_some dD
 have co := FZ.sub (sz := 1) rfl (aA.le j) cl cm
 have dG := (aA.le j).1.1
 rw [← cn] at co
 refine Ts rfl (cn ▸ st_part (l := a9) aW dE rfl (.inl ⟨rfl, by omega⟩) (.inr ⟨_, _, _, rfl, rfl, dF⟩) cl cm dG sl22)<|As rfl rfl<|Te<|Cr<|M rfl rfl<|Ts rfl (st_seql rfl rfl)<|Ts rfl (sF rfl fld39_6)<|Do rfl (uS 1 rfl rfl siz4 rfl rfl (by simp)) ?_
 rintro _ _ rfl
 refine Te ?_
 obtain ⟨dH, dI, dJ⟩ := bS hm
 refine Cj (fun cp e' hp' => [(0, pb x), (5, .string (X)), (6, .slice (subA (subA az J K 1) (J - K) aW 1) (ck).length ((J - K) - aW)), (7, pb O), (77, bv dH)] = e' ∧ (x, Cl 28 [sv o E y, sv p F z, sv q G A, sv s H B, sv t I C]) :: (O, Cl 39 [iv 0, iv 0, iv 0, iv 0, iv 0, iv 0, .bool (sEq bI (ByteArray.mk #[97, 120, 108, 101, 115]))]) :: (a ++ (c ++ (d ++ (e ++ (f ++ R))))) = hp' ∧ bd.Le cp) ?_ ?_
 have hm := dI
 refine Cg<|Ts rfl (sF rfl fld39_6)<|Ts rfl (sL 1 rfl one4 rfl rfl) ?_
 rcases Bool.eq_false_or_eq_true (sEq bI (ByteArray.mk #[97, 120, 108, 101, 115])) with aX | aX
 rw [if_pos aX] at hm
 refine Tr 72 rfl (v' := .bool true) (by rw [aX] <;> rfl)<|Ts rfl (st_not_t rfl)<|M rfl rfl<|No 74 rfl rfl rfl rfl rfl<|No 74 rfl rfl rfl rfl rfl<|Ts rfl (pF rfl rfl)<|Tn ?_
 obtain rfl := o1 hm
 refine Xp 1 rfl<|Xp 1 rfl<|X5 [_, _] a c d e f R rfl<|X5 [_, _] f a c d e R rfl<|X5 [_, _] e f a c d R rfl<|X5 [_, _] d e f a c R rfl<|X5 [_, _] c d e f a R rfl ?_
 exact xJ ⟨rfl, rfl, lr⟩ (.refl _)
 rw [if_neg (fun hh => Bool.noConfusion (hh.symm.trans aX))] at hm
 refine Tr 72 rfl (v' := .bool false) (by rw [aX] <;> rfl)<|Ts rfl (st_not_f rfl)<|M rfl rfl<|Ys 74 rfl rfl rfl<|M rfl rfl<|Ys 74 rfl rfl rfl<|Ts rfl (st_sneq rfl rfl)<|Ts rfl (pT rfl rfl)<|Tn ?_
 obtain rfl := o1 hm
 refine Xp 1 rfl<|Xp 1 rfl<|X5 [_, _] a c d e f R rfl<|X5 [_, _] f a c d e R rfl<|X5 [_, _] e f a c d R rfl<|X5 [_, _] d e f a c R rfl<|X5 [_, _] c d e f a R rfl ?_
 exact xJ ⟨rfl, rfl, lr⟩ (.refl _)
 rintro cp _ _ ⟨rfl, rfl, am⟩
 have hm := dJ
 refine Cc _ rfl (fun bK => ?_) (fun bK => ?_)
 rw [if_pos bK] at hm
 refine Cr<|As rfl rfl<|Te<|Ct<|Xr ?_
 have dK := (Option.some.inj hm).symm
 rw [dK] at aG
 have hm := elimR aG
 obtain ⟨rfl, rfl, rfl, rfl, rfl, rfl⟩ := some6 hm
 refine X5 [_, _] a c d e f R rfl<|X5 [_, _] f a c d e R rfl<|X5 [_, _] e f a c d R rfl<|X5 [_, _] d e f a c R rfl<|X5 [_, _] c d e f a R rfl ?_
 have dL := (S.le (j.trans am))
 have dM := (T.le (j.trans am))
 have dN := (U.le (j.trans am))
 have dO := (V.le (j.trans am))
 have dP := (W.le (j.trans am))
 exact rM (rs := [.tmp 4]) (vs := [iv ((-1))]) ⟨rfl, trivial⟩ ⟨o, y, a, p, z, c, q, A, d, s, B, e, t, C, f, rfl, rfl, dL, ag, dM, ah, dN, ai, dO, aj, dP, ak⟩ (.cons_cons _ (.cons _ (.refl _))) (j.trans am)
 rw [if_neg (fun hh => Bool.noConfusion (hh.symm.trans bK))] at hm
 refine Ck ?_
 have hq := (Option.some.inj hm).symm
 refine Xp 1 rfl<|Xp 1 rfl<|X5 [_, _] a c d e f R rfl<|X5 [_, _] f a c d e R rfl<|X5 [_, _] e f a c d R rfl<|X5 [_, _] d e f a c R rfl<|X5 [_, _] c d e f a R rfl ?_
 exact xJ ⟨ck, sEq bI (ByteArray.mk #[97, 120, 108, 101, 115]), (subA (subA az J K 1) (J - K) aW 1), ((J - K) - aW), rfl, rfl, am, (co.le am), hq⟩ (.refl _)
 rw [if_neg (fun hh => Bool.noConfusion (hh.symm.trans bF))] at hm
 refine Ck ?_
 have hq := (Option.some.inj hm).symm
 refine Xp 1 rfl<|Xp 1 rfl<|X5 [_, _] a c d e f R rfl<|X5 [_, _] f a c d e R rfl<|X5 [_, _] e f a c d R rfl<|X5 [_, _] d e f a c R rfl<|X5 [_, _] c d e f a R rfl ?_
 exact xJ ⟨a9, false, (subA az J K 1), (J - K), rfl, rfl, lr, (aA.le j), hq⟩ (.refl _)
 rintro bE _ _ ⟨aV, Z, be, bf, rfl, rfl, m, dQ, dR⟩
 rw [dR] at aG
 have hm := elimL aG
 have hm := (unc2E hm)
 refine Cr<|M rfl rfl ?_
 obtain ⟨⟨cq, cr⟩, dS, hm⟩ := bS hm
 have hm := (unc2E hm)
 refine Tg _ rfl call36 rfl (cLineNumbers _ _ (hG.le (j.trans m)) aV be bf dQ cq cr dS) ?_
 rintro _ dT _ n ⟨dU, dV, g, rfl, rfl, D⟩
 refine t_in1 [] [_, _] g (a ++ (c ++ (d ++ (e ++ (f ++ R))))) rfl<|M rfl rfl<|Ts rfl (st_extract rfl rfl)<|Ts rfl (st_extract rfl rfl)<|As rfl rfl<|As rfl rfl<|Te<|Cr<|Do rfl (u_mmap RT.str (OT.fr rI) false false [_, _] (g ++ (a ++ (c ++ (d ++ (e ++ (f ++ R)))))) rfl) ?_
 rintro _ _ ⟨hN, hO, rfl, rfl, dW⟩
 refine Do rfl (u_mputF kok9 [_, _] [] (g ++ (a ++ (c ++ (d ++ (e ++ (f ++ R)))))) rfl dW mapt91 rfl rfl rfl rfl ⟨rfl, rfl⟩ _ (.inr rfl)) ?_
 rintro _ _ ⟨hP, rfl, hQ, dX⟩
 refine Do rfl (u_mputF kok9 [_, _] [] (g ++ (a ++ (c ++ (d ++ (e ++ (f ++ R)))))) rfl dX mapt91 rfl rfl rfl rfl ⟨rfl, rfl⟩ _ (.inr rfl)) ?_
 rintro _ _ ⟨hR, rfl, hS, dY⟩
 refine Do rfl (u_mputF kok9 [_, _] [] (g ++ (a ++ (c ++ (d ++ (e ++ (f ++ R)))))) rfl dY mapt91 rfl rfl rfl rfl ⟨rfl, rfl⟩ _ (.inr rfl)) ?_
 rintro _ _ ⟨hT, rfl, hU, dZ⟩
 refine Do rfl (u_mputF kok9 [_, _] [] (g ++ (a ++ (c ++ (d ++ (e ++ (f ++ R)))))) rfl dZ mapt91 rfl rfl rfl rfl ⟨rfl, rfl⟩ _ (.inr rfl)) ?_
 rintro _ _ ⟨hV, rfl, hW, d0⟩
 refine Do rfl (u_mputF kok9 [_, _] [] (g ++ (a ++ (c ++ (d ++ (e ++ (f ++ R)))))) rfl d0 mapt91 rfl rfl rfl rfl ⟨rfl, rfl⟩ _ (.inr rfl)) ?_
 rintro _ _ ⟨hX, rfl, hY, d1⟩
 refine Do rfl (u_mputF kok9 [_, _] [] (g ++ (a ++ (c ++ (d ++ (e ++ (f ++ R)))))) rfl d1 mapt91 rfl rfl rfl rfl ⟨rfl, rfl⟩ _ (.inr rfl)) ?_
 rintro _ _ ⟨u, rfl, hZ, d5⟩
 refine M rfl rfl<|As rfl rfl<|Te<|Cs<|Cr<|M rfl rfl<|M rfl rfl ?_
 obtain ⟨cs, d6, hm⟩ := bS hm
 have d7 := Option.some.inj d6
 obtain ⟨ct, bg, d8⟩ := OM.lookF kok9 (z0 := 0) d5 (key := .string (X)) (k := X) rfl mapt91 zero3 rfl
 rw [d7] at bg
 obtain rfl : ct = iv cs := by have bg : [ct] = [iv cs] := bg; injection bg
 refine Ts rfl (st_mlook (ok := true) rfl rfl (fun w ho => d8 _ w ho (.cons _ (.cons _ (List.sublist_append_left _ _))) true))<|M rfl rfl<|Ts rfl (st_extract rfl rfl)<|Ts rfl (st_extract rfl rfl)<|As rfl rfl<|As rfl rfl<|Te ?_
 obtain ⟨d9, ea, eb⟩ := bS hm
 refine Cj (fun aH e' hp' => [(0, pb x), (5, .string (X)), (7, pb O), (10, sv dU cr dV), (102, bv d9)] = e' ∧ (x, Cl 28 [sv o E y, sv p F z, sv q G A, sv s H B, sv t I C]) :: (O, Cl 39 [iv 0, iv 0, iv 0, iv 0, iv 0, iv 0, bv Z]) :: (g ++ (a ++ (c ++ (d ++ (e ++ (f ++ R)))))) = hp' ∧ dT.Le aH) ?_ ?_
 have hm := ea
 refine Cg<|M rfl rfl ?_
 rcases Bool.eq_false_or_eq_true cq with aY | aY
 rw [if_pos aY] at hm
 refine Tr 91 rfl (v' := .bool true) (by rw [aY] <;> rfl)<|Ts rfl (st_not_t rfl)<|M rfl rfl<|Ys 93 rfl rfl rfl<|M rfl rfl ?_
 rcases Bool.eq_false_or_eq_true (mhas (mput (mput (mput (mput (mput (mput ([] : (List (ByteArray × Int))) (ByteArray.mk #[112, 108, 97, 105, 110]) 4) (ByteArray.mk #[112, 111, 105, 110, 116, 115]) 4) (ByteArray.mk #[99, 114, 111, 115, 115]) 2) (ByteArray.mk #[108, 105, 110, 107]) 4) (ByteArray.mk #[115, 105, 103, 110, 97, 108]) 2) (ByteArray.mk #[103, 97, 116, 101]) 2) X) with aZ | aZ
 rw [if_pos aZ] at hm
 refine Tr 94 rfl (v' := .bool true) (by rw [aZ] <;> rfl)<|Ys 93 rfl rfl rfl<|Ts rfl (st_not_t rfl)<|Ts rfl (pF rfl rfl)<|M rfl rfl<|Ys 97 rfl rfl rfl<|M rfl rfl<|Ys 97 rfl rfl rfl<|Ts rfl (sE rfl sl88)<|Ys 97 rfl rfl rfl ?_
 refine M rfl rfl<|Ys 97 rfl rfl rfl<|Ts rfl (q2 rfl rfl)<|Ts rfl (pF rfl rfl)<|Tn ?_
 obtain rfl := o1 hm
 refine Xp 1 rfl<|Xp 1 rfl<|x_front7 [_, _] u g a c d e f R rfl<|x_front7 [_, _] f u g a c d e R rfl<|x_front7 [_, _] e f u g a c d R rfl<|x_front7 [_, _] d e f u g a c R rfl<|x_front7 [_, _] c d e f u g a R rfl<|x_front7 [_, _] a c d e f u g R rfl ?_
 exact xJ ⟨rfl, rfl, lr⟩ (.cons_cons _ (.cons_cons _ (sp g (sp a (sp c (sp d (sp e (sp f (ss u (.refl _))))))))))
 rw [if_neg (fun hh => Bool.noConfusion (hh.symm.trans aZ))] at hm
 refine Tr 94 rfl (v' := .bool false) (by rw [aZ] <;> rfl)<|Ys 93 rfl rfl rfl<|Ts rfl (st_not_f rfl)<|Ts rfl (pF rfl rfl)<|M rfl rfl<|No 97 rfl rfl rfl rfl rfl<|No 97 rfl rfl rfl rfl rfl<|No 97 rfl rfl rfl rfl rfl<|No 97 rfl rfl rfl rfl rfl<|Ts rfl (pT rfl rfl) ?_
 refine Tn ?_
 obtain rfl := o1 hm
 refine Xp 1 rfl<|Xp 1 rfl<|x_front7 [_, _] u g a c d e f R rfl<|x_front7 [_, _] f u g a c d e R rfl<|x_front7 [_, _] e f u g a c d R rfl<|x_front7 [_, _] d e f u g a c R rfl<|x_front7 [_, _] c d e f u g a R rfl<|x_front7 [_, _] a c d e f u g R rfl ?_
 exact xJ ⟨rfl, rfl, lr⟩ (.cons_cons _ (.cons_cons _ (sp g (sp a (sp c (sp d (sp e (sp f (ss u (.refl _))))))))))
 rw [if_neg (fun hh => Bool.noConfusion (hh.symm.trans aY))] at hm
 refine Tr 91 rfl (v' := .bool false) (by rw [aY] <;> rfl)<|Ts rfl (st_not_f rfl)<|M rfl rfl<|No 93 rfl rfl rfl rfl rfl<|No 93 rfl rfl rfl rfl rfl<|Ts rfl (pT rfl rfl)<|M rfl rfl<|No 97 rfl rfl rfl rfl rfl<|No 97 rfl rfl rfl rfl rfl<|No 97 rfl rfl rfl rfl rfl ?_
 refine No 97 rfl rfl rfl rfl rfl<|Ts rfl (pT rfl rfl)<|Tn ?_
 obtain rfl := o1 hm
 refine Xp 1 rfl<|Xp 1 rfl<|x_front7 [_, _] u g a c d e f R rfl<|x_front7 [_, _] f u g a c d e R rfl<|x_front7 [_, _] e f u g a c d R rfl<|x_front7 [_, _] d e f u g a c R rfl<|x_front7 [_, _] c d e f u g a R rfl<|x_front7 [_, _] a c d e f u g R rfl ?_
 exact xJ ⟨rfl, rfl, lr⟩ (.cons_cons _ (.cons_cons _ (sp g (sp a (sp c (sp d (sp e (sp f (ss u (.refl _))))))))))
 rintro aH _ _ ⟨rfl, rfl, h⟩
 have hm := eb
 refine Cc _ rfl (fun bL => ?_) (fun bL => ?_)
 rw [if_pos bL] at hm
 refine Cr<|As rfl rfl<|Te<|Ct<|Xr ?_
 obtain ⟨rfl, rfl, rfl, rfl, rfl, rfl⟩ := some6 hm
 refine X6 [_, _] g a c d e f R rfl<|X6 [_, _] f g a c d e R rfl<|X6 [_, _] e f g a c d R rfl<|X6 [_, _] d e f g a c R rfl<|X6 [_, _] c d e f g a R rfl ?_
 have ec := (S.le (j.trans (m.trans (n.trans h))))
 have ed := (T.le (j.trans (m.trans (n.trans h))))
 have ee := (U.le (j.trans (m.trans (n.trans h))))
 have ef := (V.le (j.trans (m.trans (n.trans h))))
 have eg := (W.le (j.trans (m.trans (n.trans h))))
 exact rM (rs := [.tmp 4]) (vs := [iv ((-1))]) ⟨rfl, trivial⟩ ⟨o, y, a, p, z, c, q, A, d, s, B, e, t, C, f, rfl, rfl, ec, ag, ed, ah, ee, ai, ef, aj, eg, ak⟩ (.cons_cons _ (.cons _ (sp a (sp c (sp d (sp e (sp f (ss g (.refl _))))))))) (j.trans (m.trans (n.trans h)))
 rw [if_neg (fun hh => Bool.noConfusion (hh.symm.trans bL))] at hm
 refine Ck<|Xn ?_
 obtain ⟨eh, ei, an⟩ := bS hm
 refine Cj (fun bM e' hp' => ∃ (ao : Int), ∃ (aq : Int), ∃ (ar : Int), ∃ (au : Int), ∃ (av : Int), ∃ (aw : Int), [(0, pb x), (7, pb O)] = e' ∧ (x, Cl 28 [sv o E y, sv p F z, sv q G A, sv s H B, sv t I C]) :: (O, Cl 39 [iv ao, iv aq, iv ar, iv au, iv av, iv aw, bv Z]) :: (a ++ (c ++ (d ++ (e ++ (f ++ R))))) = hp' ∧ aH.Le bM ∧ eh = .inl (ao, aq, ar, au, av, aw)) ?_ ?_
 have hm := ei
 refine Cr<|M rfl rfl<|Te<|Cb<|Cr<|Ts rfl (st_seql rfl rfl)<|As rfl rfl<|Te ?_
 refine Cc _ rfl (fun bN => ?_) (fun bN => ?_)
 rw [if_pos bN] at hm
 obtain ⟨ej, ek, hm⟩ := bS hm
 obtain ⟨em, en, hm⟩ := bS hm
 obtain ⟨eo, ep, hm⟩ := bS hm
 obtain ⟨eq, er, hm⟩ := bS hm
 refine Di mixed (.cons_cons _ (.cons _ (.refl _)))<|E0 0 rfl (sM rfl) ?_
 obtain ⟨es, et, eu⟩ := iS ek
 obtain ⟨cs3631, hs3636, P3637, P3638, hq3639, ev, ew, ex, ey, hb3640, hho3641⟩ := OS.get (sz := 1) rfl (by decide) (D.le h) eu
 obtain ⟨rfl, rfl⟩ := ev
 refine E0 1 rfl (sI es rfl rfl et ey ex sl88)<|Es 2 rfl (st_load_rd rfl one3 (fun w ho => ew w _ ho (.cons _ (List.sublist_append_left _ _)) 0 _ rfl))<|E0 3 rfl (sM rfl) ?_
 obtain ⟨ez, eA, eB⟩ := iS en
 obtain ⟨cs3647, hs3652, P3653, P3654, hq3655, eC, eD, eE, eG, hb3656, hho3657⟩ := OS.get (sz := 1) rfl (by decide) (D.le h) eB
 obtain ⟨rfl, rfl⟩ := eC
 refine E0 4 rfl (sI ez rfl rfl eA eG eE sl88)<|Es 5 rfl (st_load_rd rfl one3 (fun w ho => eD w _ ho (.cons _ (List.sublist_append_left _ _)) 0 _ rfl))<|E0 6 rfl (sM rfl) ?_
 obtain ⟨eH, eI, eJ⟩ := iS ep
 obtain ⟨cs3663, hs3668, P3669, P3670, hq3671, eK, eL, eM, eN, hb3672, hho3673⟩ := OS.get (sz := 1) rfl (by decide) (D.le h) eJ
 obtain ⟨rfl, rfl⟩ := eK
 refine E0 7 rfl (sI eH rfl rfl eI eN eM sl88)<|Es 8 rfl (st_load_rd rfl one3 (fun w ho => eL w _ ho (.cons _ (List.sublist_append_left _ _)) 0 _ rfl))<|E0 9 rfl (sM rfl) ?_
 obtain ⟨eO, eP, eQ⟩ := iS er
 obtain ⟨cs3679, hs3684, P3685, P3686, hq3687, eR, eS, eU, eV, hb3688, hho3689⟩ := OS.get (sz := 1) rfl (by decide) (D.le h) eQ
 obtain ⟨rfl, rfl⟩ := eR
 refine E0 10 rfl (sI eO rfl rfl eP eV eU sl88)<|Es 11 rfl (st_load_rd rfl one3 (fun w ho => eS w _ ho (.cons _ (List.sublist_append_left _ _)) 0 _ rfl))<|E0 12 rfl (sF rfl fld39_0)<|Eo<|Da [13] (by kernel_rfl) rfl ?_
 refine Rd2 lr rfl rfl (uS 1 rfl rfl siz3 rfl rfl (by simp)) ?_ ?_
 rintro _ _ rfl
 refine ⟨.inr (.cons_cons _ (.cons _ (.refl _))), ?_⟩
 refine Ei lr (.cons_cons _ (.cons _ (.refl _)))<|E0 14 rfl (sF rfl fld39_1)<|Eo<|Da [15] (by kernel_rfl) rfl ?_
 refine Rd2 lr rfl rfl (uS 1 rfl rfl siz3 rfl rfl (by simp)) ?_ ?_
 rintro _ _ rfl
 refine ⟨.inr (.cons_cons _ (.cons _ (.refl _))), ?_⟩
 refine Ei lr (.cons_cons _ (.cons _ (.refl _)))<|E0 16 rfl (sF rfl fld39_2)<|Eo<|Da [17] (by kernel_rfl) rfl ?_
 refine Rd2 lr rfl rfl (uS 1 rfl rfl siz3 rfl rfl (by simp)) ?_ ?_
 rintro _ _ rfl
 refine ⟨.inr (.cons_cons _ (.cons _ (.refl _))), ?_⟩
 refine Ei lr (.cons_cons _ (.cons _ (.refl _)))<|E0 18 rfl (sF rfl fld39_3)<|Eo<|Da [19] (by kernel_rfl) rfl ?_
 refine Rd2 lr rfl rfl (uS 1 rfl rfl siz3 rfl rfl (by simp)) ?_ ?_
 rintro _ _ rfl
 refine ⟨.inr (.cons_cons _ (.cons _ (.refl _))), ?_⟩
 refine Ei lr (.cons_cons _ (.cons _ (.refl _)))<|E0 20 rfl (sF rfl fld39_5)<|Eo<|Da [21] (by kernel_rfl) rfl ?_
 refine Rd2 lr rfl rfl (uS 1 rfl rfl siz3 rfl rfl (by simp)) ?_ ?_
 rintro _ _ rfl
 refine ⟨.inl (by kernel_rfl), ?_⟩
 refine Dd (by kernel_rfl)<|Xm ?_
 have hq := (Option.some.inj hm).symm
 refine Xp 1 rfl<|Xp 1 rfl<|X6 [_, _] g a c d e f R rfl<|X6 [_, _] f g a c d e R rfl<|X6 [_, _] e f g a c d R rfl<|X6 [_, _] d e f g a c R rfl<|X6 [_, _] c d e f g a R rfl ?_
 exact xJ ⟨1, ej, em, eo, 0, eq, rfl, rfl, lr, hq⟩ (.cons_cons _ (.cons_cons _ (sp a (sp c (sp d (sp e (sp f (ss g (.refl _)))))))))
 exact Rn
 exact Rn
 exact Rn
 exact Rn
 exact Rn
 rw [if_neg (fun hh => Bool.noConfusion (hh.symm.trans bN))] at hm
 refine Cr<|Ts rfl (st_seql rfl rfl)<|As rfl rfl<|Te ?_
 refine Cc _ rfl (fun bO => ?_) (fun bO => ?_)
 rw [if_pos bO] at hm
 obtain ⟨eW, eX, hm⟩ := bS hm
 obtain ⟨eY, eZ, hm⟩ := bS hm
 obtain ⟨e0, e1, hm⟩ := bS hm
 obtain ⟨e2, e3, hm⟩ := bS hm
 refine Di mixed (.cons_cons _ (.cons _ (.refl _)))<|E0 0 rfl (sM rfl) ?_
 obtain ⟨e4, e5, e6⟩ := iS eX
 obtain ⟨cs3760, hs3765, P3766, P3767, hq3768, e7, e8, e9, fa, hb3769, hho3770⟩ := OS.get (sz := 1) rfl (by decide) (D.le h) e6
 obtain ⟨rfl, rfl⟩ := e7
 refine E0 1 rfl (sI e4 rfl rfl e5 fa e9 sl88)<|Es 2 rfl (st_load_rd rfl one3 (fun w ho => e8 w _ ho (.cons _ (List.sublist_append_left _ _)) 0 _ rfl))<|E0 3 rfl (sM rfl) ?_
 obtain ⟨fb, fc, fd⟩ := iS eZ
 obtain ⟨cs3776, hs3781, P3782, P3783, hq3784, fe, ff, fg, fh, hb3785, hho3786⟩ := OS.get (sz := 1) rfl (by decide) (D.le h) fd
 obtain ⟨rfl, rfl⟩ := fe
 refine E0 4 rfl (sI fb rfl rfl fc fh fg sl88)<|Es 5 rfl (st_load_rd rfl one3 (fun w ho => ff w _ ho (.cons _ (List.sublist_append_left _ _)) 0 _ rfl))<|E0 6 rfl (sM rfl) ?_
 obtain ⟨fi, fj, fk⟩ := iS e1
 obtain ⟨cs3792, hs3797, P3798, P3799, hq3800, fl, fm, fn, fo, hb3801, hho3802⟩ := OS.get (sz := 1) rfl (by decide) (D.le h) fk
 obtain ⟨rfl, rfl⟩ := fl
 refine E0 7 rfl (sI fi rfl rfl fj fo fn sl88)<|Es 8 rfl (st_load_rd rfl one3 (fun w ho => fm w _ ho (.cons _ (List.sublist_append_left _ _)) 0 _ rfl))<|E0 9 rfl (sM rfl) ?_
 obtain ⟨fp, fq, fr⟩ := iS e3
 obtain ⟨cs3808, hs3813, P3814, P3815, hq3816, fs, ft, fu, fv, hb3817, hho3818⟩ := OS.get (sz := 1) rfl (by decide) (D.le h) fr
 obtain ⟨rfl, rfl⟩ := fs
 refine E0 10 rfl (sI fp rfl rfl fq fv fu sl88)<|Es 11 rfl (st_load_rd rfl one3 (fun w ho => ft w _ ho (.cons _ (List.sublist_append_left _ _)) 0 _ rfl))<|E0 12 rfl (sF rfl fld39_0)<|Eo<|Da [13] (by kernel_rfl) rfl ?_
 refine Rd2 lr rfl rfl (uS 1 rfl rfl siz3 rfl rfl (by simp)) ?_ ?_
 rintro _ _ rfl
 refine ⟨.inr (.cons_cons _ (.cons _ (.refl _))), ?_⟩
 refine Ei lr (.cons_cons _ (.cons _ (.refl _)))<|E0 14 rfl (sF rfl fld39_1)<|Eo<|Da [15] (by kernel_rfl) rfl ?_
 refine Rd2 lr rfl rfl (uS 1 rfl rfl siz3 rfl rfl (by simp)) ?_ ?_
 rintro _ _ rfl
 refine ⟨.inr (.cons_cons _ (.cons _ (.refl _))), ?_⟩
 refine Ei lr (.cons_cons _ (.cons _ (.refl _)))<|E0 16 rfl (sF rfl fld39_2)<|Eo<|Da [17] (by kernel_rfl) rfl ?_
 refine Rd2 lr rfl rfl (uS 1 rfl rfl siz3 rfl rfl (by simp)) ?_ ?_
 rintro _ _ rfl
 refine ⟨.inr (.cons_cons _ (.cons _ (.refl _))), ?_⟩
 refine Ei lr (.cons_cons _ (.cons _ (.refl _)))<|E0 18 rfl (sF rfl fld39_3)<|Eo<|Da [19] (by kernel_rfl) rfl ?_
 refine Rd2 lr rfl rfl (uS 1 rfl rfl siz3 rfl rfl (by simp)) ?_ ?_
 rintro _ _ rfl
 refine ⟨.inr (.cons_cons _ (.cons _ (.refl _))), ?_⟩
 refine Ei lr (.cons_cons _ (.cons _ (.refl _)))<|E0 20 rfl (sF rfl fld39_4)<|Eo<|Da [21] (by kernel_rfl) rfl ?_
 refine Rd2 lr rfl rfl (uS 1 rfl rfl siz3 rfl rfl (by simp)) ?_ ?_
 rintro _ _ rfl
 refine ⟨.inl (by kernel_rfl), ?_⟩
 refine Dd (by kernel_rfl)<|Xm ?_
 have hq := (Option.some.inj hm).symm
 refine Xp 1 rfl<|Xp 1 rfl<|X6 [_, _] g a c d e f R rfl<|X6 [_, _] f g a c d e R rfl<|X6 [_, _] e f g a c d R rfl<|X6 [_, _] d e f g a c R rfl<|X6 [_, _] c d e f g a R rfl ?_
 exact xJ ⟨2, eW, eY, e0, e2, 0, rfl, rfl, lr, hq⟩ (.cons_cons _ (.cons_cons _ (sp a (sp c (sp d (sp e (sp f (ss g (.refl _)))))))))
 exact Rn
 exact Rn
 exact Rn
 exact Rn
 exact Rn
 rw [if_neg (fun hh => Bool.noConfusion (hh.symm.trans bO))] at hm
 refine Cr<|Ts rfl (st_seql rfl rfl)<|As rfl rfl<|Te ?_
 refine Cc _ rfl (fun bP => ?_) (fun bP => ?_)
 rw [if_pos bP] at hm
 obtain ⟨fw, fx, hm⟩ := bS hm
 obtain ⟨fy, fz, hm⟩ := bS hm
 refine Di mixed (.cons_cons _ (.cons _ (.refl _)))<|E0 0 rfl (sM rfl) ?_
 obtain ⟨fA, fB, fC⟩ := iS fx
 obtain ⟨cs3857, hs3862, P3863, P3864, hq3865, fD, fF, fG, fH, hb3866, hho3867⟩ := OS.get (sz := 1) rfl (by decide) (D.le h) fC
 obtain ⟨rfl, rfl⟩ := fD
 refine E0 1 rfl (sI fA rfl rfl fB fH fG sl88)<|Es 2 rfl (st_load_rd rfl one3 (fun w ho => fF w _ ho (.cons _ (List.sublist_append_left _ _)) 0 _ rfl))<|E0 3 rfl (sM rfl) ?_
 obtain ⟨fI, fJ, fK⟩ := iS fz
 obtain ⟨cs3873, hs3878, P3879, P3880, hq3881, fL, fM, fN, fO, hb3882, hho3883⟩ := OS.get (sz := 1) rfl (by decide) (D.le h) fK
 obtain ⟨rfl, rfl⟩ := fL
 refine E0 4 rfl (sI fI rfl rfl fJ fO fN sl88)<|Es 5 rfl (st_load_rd rfl one3 (fun w ho => fM w _ ho (.cons _ (List.sublist_append_left _ _)) 0 _ rfl))<|E0 6 rfl (sF rfl fld39_0)<|Eo<|Da [7] (by kernel_rfl) rfl ?_
 refine Rd2 lr rfl rfl (uS 1 rfl rfl siz3 rfl rfl (by simp)) ?_ ?_
 rintro _ _ rfl
 refine ⟨.inr (.cons_cons _ (.cons _ (.refl _))), ?_⟩
 refine Ei lr (.cons_cons _ (.cons _ (.refl _)))<|E0 8 rfl (sF rfl fld39_1)<|Eo<|Da [9] (by kernel_rfl) rfl ?_
 refine Rd2 lr rfl rfl (uS 1 rfl rfl siz3 rfl rfl (by simp)) ?_ ?_
 rintro _ _ rfl
 refine ⟨.inr (.cons_cons _ (.cons _ (.refl _))), ?_⟩
 refine Ei lr (.cons_cons _ (.cons _ (.refl _)))<|E0 10 rfl (sF rfl fld39_3)<|Eo<|Da [11] (by kernel_rfl) rfl ?_
 refine Rd2 lr rfl rfl (uS 1 rfl rfl siz3 rfl rfl (by simp)) ?_ ?_
 rintro _ _ rfl
 refine ⟨.inl (by kernel_rfl), ?_⟩
 refine Dd (by kernel_rfl)<|Xm ?_
 have hq := (Option.some.inj hm).symm
 refine Xp 1 rfl<|Xp 1 rfl<|X6 [_, _] g a c d e f R rfl<|X6 [_, _] f g a c d e R rfl<|X6 [_, _] e f g a c d R rfl<|X6 [_, _] d e f g a c R rfl<|X6 [_, _] c d e f g a R rfl ?_
 exact xJ ⟨3, fw, 0, fy, 0, 0, rfl, rfl, lr, hq⟩ (.cons_cons _ (.cons_cons _ (sp a (sp c (sp d (sp e (sp f (ss g (.refl _)))))))))
 exact Rn
 exact Rn
 exact Rn
 rw [if_neg (fun hh => Bool.noConfusion (hh.symm.trans bP))] at hm
 refine Cr<|Ts rfl (st_seql rfl rfl)<|As rfl rfl<|Te ?_
 refine Cc _ rfl (fun bQ => ?_) (fun bQ => ?_)
 rw [if_pos bQ] at hm
 obtain ⟨bh, fP, fQ⟩ := bS hm
 refine Cj (fun bR e' hp' => ∃ (a0 : OA), ∃ (bi : Nat), ∃ (aa : Hp), [] = e' ∧ (x, Cl 28 [sv o E y, sv p F z, sv a0 bh bi, sv s H B, sv t I C]) :: (a ++ (c ++ (aa ++ (e ++ (f ++ R))))) = hp' ∧ aH.Le bR ∧ OS 42 (OT.fr rApiLink) bR.w (sv a0 bh bi) bh aa ∧ (a0 = none ↔ bh = [])) ?_ ?_
 have hm := fP
 obtain ⟨aB, fR, hm⟩ := bS hm
 obtain ⟨aC, fS, hm⟩ := bS hm
 obtain ⟨aD, fT, hm⟩ := bS hm
 obtain ⟨aI, fU, hm⟩ := bS hm
 obtain ⟨_, bT, hm⟩ := bS hm
 refine Di mixed (.cons_cons _ (.cons_cons _ (sp g (sp a (sp c (ss d (.refl _)))))))<|E0 0 rfl (sM rfl)<|E0 1 rfl (sM rfl)<|E0 2 rfl (sN rfl)<|E0 3 rfl (sF rfl fld28_2)<|Es 4 rfl (sL 0 rfl one24 rfl rfl)<|E0 5 rfl (sM rfl) ?_
 obtain ⟨fV, fW, fX⟩ := iS fR
 obtain ⟨cs4110, hs4115, P4116, P4117, hq4118, fY, fZ, f0, f1, hb4119, hho4120⟩ := OS.get (sz := 1) rfl (by decide) (D.le h) fX
 obtain ⟨rfl, rfl⟩ := fY
 refine E0 6 rfl (sI fV rfl rfl fW f1 f0 sl88)<|Es 7 rfl (st_load_rd rfl one3 (fun w ho => fZ w _ ho (.cons _ (.cons _ (List.sublist_append_left _ _))) 0 _ rfl))<|E0 8 rfl (sM rfl) ?_
 obtain ⟨f2, f3, f4⟩ := iS fS
 obtain ⟨cs4126, hs4131, P4132, P4133, hq4134, f5, f6, f7, f8, hb4135, hho4136⟩ := OS.get (sz := 1) rfl (by decide) (D.le h) f4
 obtain ⟨rfl, rfl⟩ := f5
 refine E0 9 rfl (sI f2 rfl rfl f3 f8 f7 sl88)<|Es 10 rfl (st_load_rd rfl one3 (fun w ho => f6 w _ ho (.cons _ (.cons _ (List.sublist_append_left _ _))) 0 _ rfl))<|E0 11 rfl (sM rfl) ?_
 obtain ⟨f9, ga, gb⟩ := iS fT
 obtain ⟨cs4142, hs4147, P4148, P4149, hq4150, gc, gd, ge, gf, hb4151, hho4152⟩ := OS.get (sz := 1) rfl (by decide) (D.le h) gb
 obtain ⟨rfl, rfl⟩ := gc
 refine E0 12 rfl (sI f9 rfl rfl ga gf ge sl88)<|Es 13 rfl (st_load_rd rfl one3 (fun w ho => gd w _ ho (.cons _ (.cons _ (List.sublist_append_left _ _))) 0 _ rfl))<|E0 14 rfl (sM rfl) ?_
 obtain ⟨gg, gh, gi⟩ := iS fU
 obtain ⟨cs4158, hs4163, P4164, P4165, hq4166, gj, gk, gl, gm, hb4167, hho4168⟩ := OS.get (sz := 1) rfl (by decide) (D.le h) gi
 obtain ⟨rfl, rfl⟩ := gj
 refine E0 15 rfl (sI gg rfl rfl gh gm gl sl88)<|Es 16 rfl (st_load_rd rfl one3 (fun w ho => gk w _ ho (.cons _ (.cons _ (List.sublist_append_left _ _))) 0 _ rfl))<|E0 17 rfl (sB (v := .agg #[iv aB, iv aC, iv aD, iv aI]) [(0, iv aB), (1, iv aC), (2, iv aD), (3, iv aI)] rfl (fun _ => by kernel_rfl))<|Eo<|Da [18] (by kernel_rfl) rfl ?_
 refine Rd2 lr rfl rfl (u_bslice (el := 42) [(0, .agg #[iv aB, iv aC, iv aD, iv aI])] [iv aB, iv aC, iv aD, iv aI] rfl (fun _ => by kernel_rfl)) ?_ ?_
 rintro _ _ ⟨g4169, rfl, rfl⟩
 refine ⟨.inr (.cons _ (.cons_cons _ (.cons_cons _ (sp g (sp a (sp c (ss d (.refl _)))))))), ?_⟩
 have bT := room_some bT
 refine d4 [_, _, _] g a c d (e ++ (f ++ R)) rfl<|Da [19] (by kernel_rfl) rfl ?_
 refine Rd2 lr rfl rfl (uQ (r := rApiLink) (l := G) [_, _, _] (g ++ (a ++ (c ++ (e ++ (f ++ R))))) [[iv aB, iv aC, iv aD, iv aI]] [(⟨aB, aC, aD, aI⟩ : ApiLink)] rfl (by decide) sl24 inf42 rfl rfl rfl rfl (U.le (j.trans (m.trans (n.trans h)))) rfl (fun w ho => Rd.own (i := 0) ho rfl) ⟨⟨[iv aB], _, rfl, rfl, ⟨[iv aC], _, rfl, rfl, ⟨[iv aD], _, rfl, rfl, rfl⟩⟩⟩, trivial⟩ bT) ?_ ?_
 rintro _ _ ⟨ab, rfl, bU⟩
 obtain ⟨gn, go, rfl, _⟩ := bU.form
 refine ⟨.inr (.cons _ (.cons_cons _ (.cons_cons _ (ss ab (.refl _))))), ?_⟩
 refine Ei lr (.cons _ (.cons_cons _ (.cons_cons _ (ss ab (.refl _)))))<|E0 20 rfl (sN rfl)<|E0 21 rfl (sF rfl fld28_2)<|Eo<|Da [22] (by kernel_rfl) rfl ?_
 refine Rd2 lr rfl rfl (uS 1 rfl rfl siz24 rfl rfl (by simp)) ?_ ?_
 rintro _ _ rfl
 refine ⟨.inl (by kernel_rfl), ?_⟩
 refine Dd (by kernel_rfl) ?_
 obtain rfl := o1 hm
 refine Xp 1 rfl<|X6 [_, _, _] ab g a c e f R rfl<|X6 [_, _, _] f ab g a c e R rfl<|X3 [_, _, _] e f ab (g ++ (a ++ (c ++ R))) rfl<|X6 [_, _, _] ab e f g a c R rfl<|X6 [_, _, _] c ab e f g a R rfl ?_
 exact xJ ⟨gn, go, ab, rfl, rfl, lr, bU, (OS.nz bU (by simp))⟩ (.cons_cons _ (.cons _ (.cons _ (sp a (sp c (sp ab (sp e (sp f (ss g (.refl _))))))))))
 exact Rn
 exact Rn
 exact Rn
 rintro bR _ _ ⟨a0, bi, aa, rfl, rfl, a1, gp, gq⟩
 have hm := fQ
 refine Cr<|As rfl rfl<|Te<|Ct<|Xb<|Xr ?_
 have gr := (Option.some.inj hm).symm
 rw [gr] at an
 have hm := elimR an
 obtain ⟨rfl, rfl, rfl, rfl, rfl, rfl⟩ := some6 hm
 refine X5 [_] a c aa e f R rfl<|X5 [_] f a c aa e R rfl<|X5 [_] e f a c aa R rfl<|X5 [_] aa e f a c R rfl<|X5 [_] c aa e f a R rfl ?_
 have gs := (S.le (j.trans (m.trans (n.trans (h.trans a1)))))
 have gt := (T.le (j.trans (m.trans (n.trans (h.trans a1)))))
 have gu := (V.le (j.trans (m.trans (n.trans (h.trans a1)))))
 have gv := (W.le (j.trans (m.trans (n.trans (h.trans a1)))))
 exact rM (rs := [.tmp 4]) (vs := [iv 2]) ⟨rfl, trivial⟩ ⟨o, y, a, p, z, c, a0, bi, aa, s, B, e, t, C, f, rfl, rfl, gs, ag, gt, ah, gp, gq, gu, aj, gv, ak⟩ (.refl _) (j.trans (m.trans (n.trans (h.trans a1))))
 rw [if_neg (fun hh => Bool.noConfusion (hh.symm.trans bQ))] at hm
 refine Cr<|Ts rfl (st_seql rfl rfl)<|As rfl rfl<|Te ?_
 refine Cc _ rfl (fun bV => ?_) (fun bV => ?_)
 rw [if_pos bV] at hm
 obtain ⟨bj, gw, gx⟩ := bS hm
 refine Cj (fun bW e' hp' => ∃ (a2 : OA), ∃ (bk : Nat), ∃ (ac : Hp), [] = e' ∧ (x, Cl 28 [sv o E y, sv p F z, sv q G A, sv a2 bj bk, sv t I C]) :: (a ++ (c ++ (d ++ (ac ++ (f ++ R))))) = hp' ∧ aH.Le bW ∧ OS 45 (OT.fr rApiSignal) bW.w (sv a2 bj bk) bj ac ∧ (a2 = none ↔ bj = [])) ?_ ?_
 have hm := gw
 obtain ⟨aE, gy, hm⟩ := bS hm
 obtain ⟨aJ, gz, hm⟩ := bS hm
 obtain ⟨_, bX, hm⟩ := bS hm
 refine Di mixed (.cons_cons _ (.cons_cons _ (sp g (sp a (sp c (sp d (ss e (.refl _))))))))<|E0 0 rfl (sM rfl)<|E0 1 rfl (sM rfl)<|E0 2 rfl (sN rfl)<|E0 3 rfl (sF rfl fld28_3)<|Es 4 rfl (sL 0 rfl one25 rfl rfl)<|E0 5 rfl (sM rfl) ?_
 obtain ⟨gA, gB, gC⟩ := iS gy
 obtain ⟨cs4310, hs4315, P4316, P4317, hq4318, gD, gE, gF, gG, hb4319, hho4320⟩ := OS.get (sz := 1) rfl (by decide) (D.le h) gC
 obtain ⟨rfl, rfl⟩ := gD
 refine E0 6 rfl (sI gA rfl rfl gB gG gF sl88)<|Es 7 rfl (st_load_rd rfl one3 (fun w ho => gE w _ ho (.cons _ (.cons _ (List.sublist_append_left _ _))) 0 _ rfl))<|E0 8 rfl (sM rfl) ?_
 obtain ⟨gH, gI, gJ⟩ := iS gz
 obtain ⟨cs4326, hs4331, P4332, P4333, hq4334, gK, gL, gM, gN, hb4335, hho4336⟩ := OS.get (sz := 1) rfl (by decide) (D.le h) gJ
 obtain ⟨rfl, rfl⟩ := gK
 refine E0 9 rfl (sI gH rfl rfl gI gN gM sl88)<|Es 10 rfl (st_load_rd rfl one3 (fun w ho => gL w _ ho (.cons _ (.cons _ (List.sublist_append_left _ _))) 0 _ rfl))<|E0 11 rfl (sB (v := .agg #[iv aE, iv aJ]) [(0, iv aE), (1, iv aJ)] rfl (fun _ => by kernel_rfl))<|Eo<|Da [12] (by kernel_rfl) rfl ?_
 refine Rd2 lr rfl rfl (u_bslice (el := 45) [(0, .agg #[iv aE, iv aJ])] [iv aE, iv aJ] rfl (fun _ => by kernel_rfl)) ?_ ?_
 rintro _ _ ⟨g4337, rfl, rfl⟩
 refine ⟨.inr (.cons _ (.cons_cons _ (.cons_cons _ (sp g (sp a (sp c (sp d (ss e (.refl _))))))))), ?_⟩
 have bX := room_some bX
 refine d_front5 [_, _, _] g a c d e (f ++ R) rfl<|Da [13] (by kernel_rfl) rfl ?_
 refine Rd2 lr rfl rfl (uQ (r := rApiSignal) (l := H) [_, _, _] (g ++ (a ++ (c ++ (d ++ (f ++ R))))) [[iv aE, iv aJ]] [(⟨aE, aJ⟩ : ApiSignal)] rfl (by decide) sl25 inf45 rfl rfl rfl rfl (V.le (j.trans (m.trans (n.trans h)))) rfl (fun w ho => Rd.own (i := 0) ho rfl) ⟨⟨[iv aE], _, rfl, rfl, rfl⟩, trivial⟩ bX) ?_ ?_
 rintro _ _ ⟨ad, rfl, bY⟩
 obtain ⟨gO, gP, rfl, _⟩ := bY.form
 refine ⟨.inr (.cons _ (.cons_cons _ (.cons_cons _ (ss ad (.refl _))))), ?_⟩
 refine Ei lr (.cons _ (.cons_cons _ (.cons_cons _ (ss ad (.refl _)))))<|E0 14 rfl (sN rfl)<|E0 15 rfl (sF rfl fld28_3)<|Eo<|Da [16] (by kernel_rfl) rfl ?_
 refine Rd2 lr rfl rfl (uS 1 rfl rfl siz25 rfl rfl (by simp)) ?_ ?_
 rintro _ _ rfl
 refine ⟨.inl (by kernel_rfl), ?_⟩
 refine Dd (by kernel_rfl) ?_
 obtain rfl := o1 hm
 refine Xp 1 rfl<|X6 [_, _, _] ad g a c d f R rfl<|X2 [_, _, _] f ad (g ++ (a ++ (c ++ (d ++ R)))) rfl<|X6 [_, _, _] ad f g a c d R rfl<|X6 [_, _, _] d ad f g a c R rfl<|X6 [_, _, _] c d ad f g a R rfl ?_
 exact xJ ⟨gO, gP, ad, rfl, rfl, lr, bY, (OS.nz bY (by simp))⟩ (.cons_cons _ (.cons _ (.cons _ (sp a (sp c (sp d (sp ad (sp f (ss g (.refl _))))))))))
 exact Rn
 exact Rn
 exact Rn
 rintro bW _ _ ⟨a2, bk, ac, rfl, rfl, a3, gQ, gR⟩
 have hm := gx
 refine Cr<|As rfl rfl<|Te<|Ct<|Xb<|Xr ?_
 have gS := (Option.some.inj hm).symm
 rw [gS] at an
 have hm := elimR an
 obtain ⟨rfl, rfl, rfl, rfl, rfl, rfl⟩ := some6 hm
 refine X5 [_] a c d ac f R rfl<|X5 [_] f a c d ac R rfl<|X5 [_] ac f a c d R rfl<|X5 [_] d ac f a c R rfl<|X5 [_] c d ac f a R rfl ?_
 have gT := (S.le (j.trans (m.trans (n.trans (h.trans a3)))))
 have gU := (T.le (j.trans (m.trans (n.trans (h.trans a3)))))
 have gV := (U.le (j.trans (m.trans (n.trans (h.trans a3)))))
 have gW := (W.le (j.trans (m.trans (n.trans (h.trans a3)))))
 exact rM (rs := [.tmp 4]) (vs := [iv 3]) ⟨rfl, trivial⟩ ⟨o, y, a, p, z, c, q, A, d, a2, bk, ac, t, C, f, rfl, rfl, gT, ag, gU, ah, gV, ai, gQ, gR, gW, ak⟩ (.refl _) (j.trans (m.trans (n.trans (h.trans a3))))
 rw [if_neg (fun hh => Bool.noConfusion (hh.symm.trans bV))] at hm
 refine Cr<|Ts rfl (st_seql rfl rfl)<|As rfl rfl<|Te ?_
 refine Cc _ rfl (fun bZ => ?_) (fun bZ => ?_)
 rw [if_pos bZ] at hm
 obtain ⟨bl, gX, gY⟩ := bS hm
 refine Cj (fun b0 e' hp' => ∃ (a4 : OA), ∃ (bm : Nat), ∃ (ae : Hp), [] = e' ∧ (x, Cl 28 [sv o E y, sv p F z, sv q G A, sv s H B, sv a4 bl bm]) :: (a ++ (c ++ (d ++ (e ++ (ae ++ R))))) = hp' ∧ aH.Le b0 ∧ OS 48 (OT.fr rApiGate) b0.w (sv a4 bl bm) bl ae ∧ (a4 = none ↔ bl = [])) ?_ ?_
 have hm := gX
 obtain ⟨aF, gZ, hm⟩ := bS hm
 obtain ⟨aK, g0, hm⟩ := bS hm
 obtain ⟨_, b1, hm⟩ := bS hm
 refine Di mixed (.cons_cons _ (.cons_cons _ (sp g (sp a (sp c (sp d (sp e (ss f (.refl _)))))))))<|E0 0 rfl (sM rfl)<|E0 1 rfl (sM rfl)<|E0 2 rfl (sN rfl)<|E0 3 rfl (sF rfl fld28_4)<|Es 4 rfl (sL 0 rfl one26 rfl rfl)<|E0 5 rfl (sM rfl) ?_
 obtain ⟨g1, g2, g3⟩ := iS gZ
 obtain ⟨cs4478, hs4483, P4484, P4485, hq4486, g4, g5, g6, g7, hb4487, hho4488⟩ := OS.get (sz := 1) rfl (by decide) (D.le h) g3
 obtain ⟨rfl, rfl⟩ := g4
 refine E0 6 rfl (sI g1 rfl rfl g2 g7 g6 sl88)<|Es 7 rfl (st_load_rd rfl one3 (fun w ho => g5 w _ ho (.cons _ (.cons _ (List.sublist_append_left _ _))) 0 _ rfl))<|E0 8 rfl (sM rfl) ?_
 obtain ⟨g8, g9, ha⟩ := iS g0
 obtain ⟨cs4494, hs4499, P4500, P4501, hq4502, hb, hc, hd, he, hb4503, hho4504⟩ := OS.get (sz := 1) rfl (by decide) (D.le h) ha
 obtain ⟨rfl, rfl⟩ := hb
 refine E0 9 rfl (sI g8 rfl rfl g9 he hd sl88)<|Es 10 rfl (st_load_rd rfl one3 (fun w ho => hc w _ ho (.cons _ (.cons _ (List.sublist_append_left _ _))) 0 _ rfl))<|E0 11 rfl (sB (v := .agg #[iv aF, iv aK]) [(0, iv aF), (1, iv aK)] rfl (fun _ => by kernel_rfl))<|Eo<|Da [12] (by kernel_rfl) rfl ?_
 refine Rd2 lr rfl rfl (u_bslice (el := 48) [(0, .agg #[iv aF, iv aK])] [iv aF, iv aK] rfl (fun _ => by kernel_rfl)) ?_ ?_
 rintro _ _ ⟨g4505, rfl, rfl⟩
 refine ⟨.inr (.cons _ (.cons_cons _ (.cons_cons _ (sp g (sp a (sp c (sp d (sp e (ss f (.refl _)))))))))), ?_⟩
 have b1 := room_some b1
 refine d_front6 [_, _, _] g a c d e f R rfl<|Da [13] (by kernel_rfl) rfl ?_
 refine Rd2 lr rfl rfl (uQ (r := rApiGate) (l := I) [_, _, _] (g ++ (a ++ (c ++ (d ++ (e ++ R))))) [[iv aF, iv aK]] [(⟨aF, aK⟩ : ApiGate)] rfl (by decide) sl26 inf48 rfl rfl rfl rfl (W.le (j.trans (m.trans (n.trans h)))) rfl (fun w ho => Rd.own (i := 0) ho rfl) ⟨⟨[iv aF], _, rfl, rfl, rfl⟩, trivial⟩ b1) ?_ ?_
 rintro _ _ ⟨ax, rfl, b2⟩
 obtain ⟨hf, hg, rfl, _⟩ := b2.form
 refine ⟨.inr (.cons _ (.cons_cons _ (.cons_cons _ (ss ax (.refl _))))), ?_⟩
 refine Ei lr (.cons _ (.cons_cons _ (.cons_cons _ (ss ax (.refl _)))))<|E0 14 rfl (sN rfl)<|E0 15 rfl (sF rfl fld28_4)<|Eo<|Da [16] (by kernel_rfl) rfl ?_
 refine Rd2 lr rfl rfl (uS 1 rfl rfl siz26 rfl rfl (by simp)) ?_ ?_
 rintro _ _ rfl
 refine ⟨.inl (by kernel_rfl), ?_⟩
 refine Dd (by kernel_rfl) ?_
 obtain rfl := o1 hm
 refine Xp 1 rfl<|X6 [_, _, _] ax g a c d e R rfl<|X6 [_, _, _] e ax g a c d R rfl<|X6 [_, _, _] d e ax g a c R rfl<|X6 [_, _, _] c d e ax g a R rfl ?_
 exact xJ ⟨hf, hg, ax, rfl, rfl, lr, b2, (OS.nz b2 (by simp))⟩ (.cons_cons _ (.cons _ (.cons _ (sp a (sp c (sp d (sp e (sp ax (ss g (.refl _))))))))))
 exact Rn
 exact Rn
 exact Rn
 rintro b0 _ _ ⟨a4, bm, ae, rfl, rfl, a5, hi, hj⟩
 have hm := gY
 refine Cr<|As rfl rfl<|Te<|Ct<|Xb<|Xr ?_
 have hk := (Option.some.inj hm).symm
 rw [hk] at an
 have hm := elimR an
 obtain ⟨rfl, rfl, rfl, rfl, rfl, rfl⟩ := some6 hm
 refine X5 [_] a c d e ae R rfl<|X5 [_] ae a c d e R rfl<|X5 [_] e ae a c d R rfl<|X5 [_] d e ae a c R rfl<|X5 [_] c d e ae a R rfl ?_
 have hl := (S.le (j.trans (m.trans (n.trans (h.trans a5)))))
 have hn := (T.le (j.trans (m.trans (n.trans (h.trans a5)))))
 have hr := (U.le (j.trans (m.trans (n.trans (h.trans a5)))))
 have hs := (V.le (j.trans (m.trans (n.trans (h.trans a5)))))
 exact rM (rs := [.tmp 4]) (vs := [iv 4]) ⟨rfl, trivial⟩ ⟨o, y, a, p, z, c, q, A, d, s, B, e, a4, bm, ae, rfl, rfl, hl, ag, hn, ah, hr, ai, hs, aj, hi, hj⟩ (.refl _) (j.trans (m.trans (n.trans (h.trans a5))))
 rw [if_neg (fun hh => Bool.noConfusion (hh.symm.trans bZ))] at hm
 refine Ck<|Xm ?_
 have hq := (Option.some.inj hm).symm
 refine Xp 1 rfl<|Xp 1 rfl<|X6 [_, _] g a c d e f R rfl<|X6 [_, _] f g a c d e R rfl<|X6 [_, _] e f g a c d R rfl<|X6 [_, _] d e f g a c R rfl<|X6 [_, _] c d e f g a R rfl ?_
 exact xJ ⟨0, 0, 0, 0, 0, 0, rfl, rfl, lr, hq⟩ (.cons_cons _ (.cons_cons _ (sp a (sp c (sp d (sp e (sp f (ss g (.refl _)))))))))
 rintro bM _ _ ⟨ao, aq, ar, au, av, aw, rfl, rfl, aL, ht⟩
 rw [ht] at an
 have hm := elimL an
 have hm := (unc6E hm)
 obtain ⟨bn, hu, hv⟩ := bS hm
 refine Cj (fun b3 e' hp' => ∃ (a6 : OA), ∃ (bo : Nat), ∃ (af : Hp), [] = e' ∧ (x, Cl 28 [sv o E y, sv a6 bn bo, sv q G A, sv s H B, sv t I C]) :: (a ++ (af ++ (d ++ (e ++ (f ++ R))))) = hp' ∧ bM.Le b3 ∧ OS 39 (OT.fr rApiSection) b3.w (sv a6 bn bo) bn af ∧ (a6 = none ↔ bn = [])) ?_ ?_
 have hm := hu
 obtain ⟨_, b4, hm⟩ := bS hm
 refine Di mixed (.cons_cons _ (.cons_cons _ (sp a (ss c (.refl _)))))<|E0 0 rfl (sM rfl)<|E0 1 rfl (sM rfl)<|E0 2 rfl (sN rfl)<|E0 3 rfl (sF rfl fld28_1)<|Es 4 rfl (sL 0 rfl one23 rfl rfl)<|Es 5 rfl (sD (vs := [_, _, _, _, _, _, _]) 1 7 rfl agg39 rfl rfl rfl)<|Eo<|Da [6] (by kernel_rfl) rfl ?_
 refine Rd2 lr rfl rfl (u_bslice (el := 39) [(0, .agg #[iv ao, iv aq, iv ar, iv au, iv av, iv aw, bv Z])] [iv ao, iv aq, iv ar, iv au, iv av, iv aw, bv Z] rfl (fun _ => by kernel_rfl)) ?_ ?_
 rintro _ _ ⟨g4545, rfl, rfl⟩
 refine ⟨.inr (.cons _ (.cons_cons _ (.cons_cons _ (sp a (ss c (.refl _)))))), ?_⟩
 have b4 := room_some b4
 refine d2 [_, _, _] a c (d ++ (e ++ (f ++ R))) rfl<|Da [7] (by kernel_rfl) rfl ?_
 refine Rd2 lr rfl rfl (uQ (r := rApiSection) (l := F) [_, _, _] (a ++ (d ++ (e ++ (f ++ R)))) [[iv ao, iv aq, iv ar, iv au, iv av, iv aw, bv Z]] [(⟨ao, aq, ar, au, av, aw, Z⟩ : ApiSection)] rfl (by decide) sl23 inf39 rfl rfl rfl rfl (T.le (j.trans (m.trans (n.trans (h.trans aL))))) rfl (fun w ho => Rd.own (i := 0) ho rfl) ⟨⟨[iv ao], _, rfl, rfl, ⟨[iv aq], _, rfl, rfl, ⟨[iv ar], _, rfl, rfl, ⟨[iv au], _, rfl, rfl, ⟨[iv av], _, rfl, rfl, ⟨[iv aw], _, rfl, rfl, rfl⟩⟩⟩⟩⟩⟩, trivial⟩ b4) ?_ ?_
 rintro _ _ ⟨ay, rfl, b5⟩
 obtain ⟨hw, hx, rfl, _⟩ := b5.form
 refine ⟨.inr (.cons _ (.cons_cons _ (.cons_cons _ (ss ay (.refl _))))), ?_⟩
 refine Ei lr (.cons _ (.cons_cons _ (.cons_cons _ (ss ay (.refl _)))))<|E0 8 rfl (sN rfl)<|E0 9 rfl (sF rfl fld28_1)<|Eo<|Da [10] (by kernel_rfl) rfl ?_
 refine Rd2 lr rfl rfl (uS 1 rfl rfl siz23 rfl rfl (by simp)) ?_ ?_
 rintro _ _ rfl
 refine ⟨.inl (by kernel_rfl), ?_⟩
 refine Dd (by kernel_rfl) ?_
 obtain rfl := o1 hm
 refine Xp 1 rfl<|X5 [_, _, _] ay a d e f R rfl<|X5 [_, _, _] f ay a d e R rfl<|X5 [_, _, _] e f ay a d R rfl<|X4 [_, _, _] d e f ay (a ++ R) rfl<|X5 [_, _, _] ay d e f a R rfl ?_
 exact xJ ⟨hw, hx, ay, rfl, rfl, lr, b5, (OS.nz b5 (by simp))⟩ (.cons_cons _ (.cons _ (.cons _ (.refl _))))
 exact Rn
 exact Rn
 exact Rn
 rintro b3 _ _ ⟨a6, bo, af, rfl, rfl, a7, hy, hz⟩
 have hm := hv
 refine Cr<|As rfl rfl<|Te<|Ct ?_
 obtain ⟨rfl, rfl, rfl, rfl, rfl, rfl⟩ := some6 hm
 refine X5 [_] a af d e f R rfl<|X5 [_] f a af d e R rfl<|X5 [_] e f a af d R rfl<|X5 [_] d e f a af R rfl<|X5 [_] af d e f a R rfl ?_
 have hA := (S.le (j.trans (m.trans (n.trans (h.trans (aL.trans a7))))))
 have hB := (U.le (j.trans (m.trans (n.trans (h.trans (aL.trans a7))))))
 have hC := (V.le (j.trans (m.trans (n.trans (h.trans (aL.trans a7))))))
 have hD := (W.le (j.trans (m.trans (n.trans (h.trans (aL.trans a7))))))
 exact rM (rs := [.tmp 4]) (vs := [iv 1]) ⟨rfl, trivial⟩ ⟨o, y, a, a6, bo, af, q, A, d, s, B, e, t, C, f, rfl, rfl, hA, ag, hy, hz, hB, ai, hC, aj, hD, ak⟩ (.refl _) (j.trans (m.trans (n.trans (h.trans (aL.trans a7)))))

set_option maxRecDepth 20000 in
theorem cLineName (b : Base) (R : Hp) (a : ByteArray) (k : Bool) (hm : mLineName a = some k) :
    CallsG Tryd.prog 16 [.string (a)] b (R) (fun v b' hp' => bv k = v ∧ R = hp') := by
 refine fE 27 Tryd.func16 rfl Tryd.ntmps16 rfl ?_
 unfold mLineName at hm
 refine Cr<|As rfl rfl<|Te<|Cs<|Cr<|M rfl rfl ?_
 obtain ⟨_, f, hm⟩ := bS hm
 have f := (kS f).2.2
 refine Do rfl (u_bytes rfl str9 sl51 int5_u8 f) ?_
 rintro _ _ ⟨l, m, tl67, fr68, rfl, rfl, u, w⟩
 refine t_frzb 0 rfl ?_
 intro x n y
 have o := bytes_fz y u w
 refine Ts rfl (sE rfl sl51)<|M rfl rfl<|Te<|Cb ?_
 have W : (sBytes a).length ≤ 9223372036854775807 := (FZ.bd o)
 obtain ⟨X, z, e⟩ := bS hm
 refine cF (fun g => fun _ => fun c e' hp' => [(0, .string (a)), (6, .slice (some ⟨l, 0, none⟩) (sBytes a).length m), (7, iv (((sBytes a).length : Int))), (8, iv ((g : Int)))] = e' ∧ R = hp' ∧ x.Le c) z ⟨rfl, rfl, lr⟩ (.refl _) ?_ ?_
 rintro g _ c _ _ Y Z ⟨rfl, rfl, d⟩ p A
 unfold mLineName_L75 at p
 have hm := p
 refine Cr<|Ts rfl (lT rfl rfl (by omega))<|Te<|Cs<|c_cond_t rfl<|Ck<|Xn<|Cs<|Cb<|Cr ?_
 obtain ⟨aa, B, hm⟩ := bS hm
 obtain ⟨C, D, E⟩ := iS B
 obtain ⟨ab, F, G, H, I⟩ := FZ.get (sz := 1) rfl (by decide) (o.le d) E
 obtain rfl := F
 refine Ts rfl (sI C rfl rfl D I H sl51)<|Ts rfl (sO rfl one5 (G 0 _ rfl))<|As rfl rfl<|Te ?_
 obtain ⟨J, K, L⟩ := bS hm
 refine Cj (fun q e' hp' => [(0, .string (a)), (6, .slice (some ⟨l, 0, none⟩) (sBytes a).length m), (7, iv (((sBytes a).length : Int))), (8, iv ((g : Int))), (17, bv J)] = e' ∧ R = hp' ∧ c.Le q) ?_ ?_
 have hm := K
 refine Cg<|M rfl rfl ?_
 refine Tb rfl (q3 rfl rfl) (fun h => ?_) (fun h => ?_)
 rw [if_pos h] at hm
 refine M rfl rfl<|No 14 rfl rfl rfl rfl rfl<|No 14 rfl rfl rfl rfl rfl<|Ts rfl (pT rfl rfl)<|Tn ?_
 obtain rfl := o1 hm
 exact xJ ⟨rfl, rfl, lr⟩ (.refl _)
 rw [if_neg h] at hm
 refine M rfl rfl<|Ys 14 rfl rfl rfl<|M rfl rfl<|Ys 14 rfl rfl rfl<|Ts rfl (q5 rfl rfl)<|Ts rfl (pF rfl rfl)<|Tn ?_
 obtain rfl := o1 hm
 exact xJ ⟨rfl, rfl, lr⟩ (.refl _)
 rintro q _ _ ⟨rfl, rfl, r⟩
 have hm := L
 refine Cc _ rfl (fun i => ?_) (fun i => ?_)
 rw [if_pos i] at hm
 refine Cr<|As rfl rfl<|Te<|Ct<|Xb<|Xr<|Xr<|Xb<|Xr ?_
 have O := A _ (Option.some.inj hm).symm
 rw [O] at e
 have hm := elimR e
 obtain rfl := o1 hm
 exact rM (rs := [.tmp 2]) (vs := [bv false]) ⟨rfl, trivial⟩ ⟨rfl, rfl⟩ (.refl _) (n.trans (d.trans r))
 rw [if_neg (fun hh => Bool.noConfusion (hh.symm.trans i))] at hm
 refine Ck<|Xm<|Xn<|Cg<|Ts rfl (sa rfl rfl (by omega))<|M rfl rfl<|Tn ?_
 exact xM hm ⟨rfl, rfl, ((d.trans r))⟩ (.refl _)
 rintro _ c _ _ ⟨rfl, rfl, d⟩ S
 rw [S] at e
 have hm := elimL e
 refine Cr<|Ts rfl (lF rfl rfl (by omega))<|Te<|Cs<|c_cond_f rfl<|Ce<|Xe<|Xe<|Xo<|Xn ?_
 obtain ⟨s, T, U⟩ := bS hm
 refine Cj (fun t e' hp' => [(2, bv s)] = e' ∧ R = hp' ∧ c.Le t) ?_ ?_
 have hm := T
 refine Cg<|M rfl rfl<|Ts rfl (st_slen rfl str9) ?_
 refine Tb rfl (q6 rfl rfl) (fun j => ?_) (fun j => ?_)
 rw [if_pos j] at hm
 refine M rfl rfl<|Ys 22 rfl rfl rfl<|M rfl rfl<|Ys 22 rfl rfl rfl<|Ts rfl (st_slen rfl str9)<|Ys 22 rfl rfl rfl<|Ts rfl (q4 rfl rfl)<|Ts rfl (pT rfl rfl)<|As rfl rfl<|Tn ?_
 obtain rfl := o1 hm
 exact xJ ⟨rfl, rfl, lr⟩ (.refl _)
 rw [if_neg j] at hm
 refine M rfl rfl<|No 22 rfl rfl rfl rfl rfl<|No 22 rfl rfl rfl rfl rfl<|No 22 rfl rfl rfl rfl rfl<|Ts rfl (pF rfl rfl)<|As rfl rfl<|Tn ?_
 obtain rfl := o1 hm
 exact xJ ⟨rfl, rfl, lr⟩ (.refl _)
 rintro t _ _ ⟨rfl, rfl, V⟩
 have hm := U
 refine Ct ?_
 obtain rfl := o1 hm
 exact rM (rs := [.tmp 2]) (vs := [bv s]) ⟨rfl, trivial⟩ ⟨rfl, rfl⟩ (.refl _) (n.trans (d.trans V))

set_option maxRecDepth 20000 in
theorem cSlicesIndex (b : Base) (R : Hp) (a : (List ByteArray)) (e : ByteArray) (f : OA) (g : Nat) (k : FZ RT.str b.w f g a) (l : Int) (hm : mSlicesIndex a e = some l) :
    CallsG Tryd.prog 27 [sv f a g, .string (e)] b (R) (fun v b' hp' => iv l = v ∧ R = hp') := by
 refine fE 19 Tryd.func27 rfl Tryd.ntmps27 rfl ?_
 unfold mSlicesIndex at hm
 refine Cr<|As rfl rfl<|Te<|Cs<|Cr<|M rfl rfl<|Ts rfl (sE rfl sl22)<|M rfl rfl<|Te<|Cb ?_
 have A : a.length ≤ 9223372036854775807 := (FZ.bd k)
 obtain ⟨B, n, d⟩ := bS hm
 refine cF (fun h => fun _ => fun i e' hp' => [(0, sv f a g), (1, .string (e)), (7, iv ((a.length : Int))), (8, iv ((h : Int)))] = e' ∧ R = hp' ∧ b.Le i) n ⟨rfl, rfl, lr⟩ (.refl _) ?_ ?_
 rintro h _ i _ _ C D ⟨rfl, rfl, c⟩ m o
 unfold mSlicesIndex_L39 at m
 have hm := m
 refine Cr<|Ts rfl (lT rfl rfl (by omega))<|Te<|Cs<|c_cond_t rfl<|Ck<|Xn<|Cs<|Cb<|Cr ?_
 refine M rfl rfl<|As rfl rfl<|Te<|Cr<|M rfl rfl<|M rfl rfl<|M rfl rfl ?_
 obtain ⟨E, p, hm⟩ := bS hm
 obtain ⟨q, r, s⟩ := iS p
 obtain ⟨F, t, u, w, x⟩ := FZ.get (sz := 1) rfl (by decide) (k.le c) s
 obtain rfl := t
 refine Ts rfl (sI q rfl rfl r x w sl22)<|Ts rfl (sO rfl one9 (u 0 _ rfl))<|Ts rfl (st_seql rfl rfl)<|Te ?_
 refine Cc _ rfl (fun j => ?_) (fun j => ?_)
 rw [if_pos j] at hm
 refine Cr<|M rfl rfl<|As rfl rfl<|Te<|Ct<|Xb<|Xr<|Xr<|Xb<|Xr ?_
 have y := o _ (Option.some.inj hm).symm
 rw [y] at d
 have hm := elimR d
 obtain rfl := o1 hm
 exact rM (rs := [.tmp 4]) (vs := [iv ((h : Int))]) ⟨rfl, trivial⟩ ⟨rfl, rfl⟩ (.refl _) c
 rw [if_neg (fun hh => Bool.noConfusion (hh.symm.trans j))] at hm
 refine Ck<|Xm<|Xn<|Cg<|Ts rfl (sa rfl rfl (by omega))<|M rfl rfl<|Tn ?_
 exact xM hm ⟨rfl, rfl, (c)⟩ (.refl _)
 rintro _ i _ _ ⟨rfl, rfl, c⟩ z
 rw [z] at d
 have hm := elimL d
 refine Cr<|Ts rfl (lF rfl rfl (by omega))<|Te<|Cs<|c_cond_f rfl<|Ce<|Xe<|Xe<|Xo<|Xn ?_
 refine Cr<|As rfl rfl<|Te<|Ct ?_
 obtain rfl := o1 hm
 exact rM (rs := [.tmp 4]) (vs := [iv ((-1))]) ⟨rfl, trivial⟩ ⟨rfl, rfl⟩ (.refl _) c

set_option maxRecDepth 20000 in
theorem cSlicesContains (b : Base) (R : Hp) (a : (List ByteArray)) (c : ByteArray) (d : OA) (e : Nat) (i : FZ RT.str b.w d e a) (f : Bool) (hm : mSlicesContains a c = some f) :
    CallsG Tryd.prog 17 [sv d a e, .string (c)] b (R) (fun v b' hp' => bv f = v ∧ R = hp') := by
 refine fE 9 Tryd.func17 rfl Tryd.ntmps17 rfl ?_
 unfold mSlicesContains at hm
 refine Cr<|As rfl rfl<|Te<|Cr<|M rfl rfl<|M rfl rfl ?_
 obtain ⟨g, j, hm⟩ := bS hm
 refine Do rfl (uW _ call27 rfl (fun w ho => cSlicesIndex _ [] a c d e (i.old ho) g j) (fun _ _ _ h => h.2.symm)) ?_
 rintro _ _ ⟨⟨_, rfl, _⟩, rfl⟩
 refine Ts rfl (q6 rfl rfl)<|As rfl rfl<|Te<|Ct ?_
 obtain rfl := o1 hm
 exact rM (rs := [.tmp 4]) (vs := [.bool (decide (0 ≤ g))]) ⟨rfl, trivial⟩ ⟨rfl, rfl⟩ (.refl _) lr

set_option maxRecDepth 20000 in
theorem cLineEnds (b : Base) (R : Hp) (e : Int) (f : Int) (hm : mLineEnds e = some f) :
    CallsG Tryd.prog 28 [iv e] b (R) (fun v b' hp' => iv f = v ∧ R = hp') := by
 refine fE 10 Tryd.func28 rfl Tryd.ntmps28 rfl ?_
 unfold mLineEnds at hm
 refine Cr<|As rfl rfl<|Te<|Cs<|Cr<|M rfl rfl<|Te<|Cb<|Cr<|Ts rfl (q1 rfl rfl) ?_
 refine As rfl rfl<|Te ?_
 refine Cc _ rfl (fun a => ?_) (fun a => ?_)
 rw [if_pos (of_decide_eq_true a)] at hm
 refine Cr<|As rfl rfl<|Te<|Ct<|Xb<|Xr ?_
 obtain rfl := o1 hm
 exact rM (rs := [.tmp 2]) (vs := [iv 2]) ⟨rfl, trivial⟩ ⟨rfl, rfl⟩ (.refl _) lr
 rw [if_neg (of_decide_eq_false a)] at hm
 refine Cr<|Ts rfl (q1 rfl rfl)<|As rfl rfl<|Te ?_
 refine Cc _ rfl (fun c => ?_) (fun c => ?_)
 rw [if_pos (of_decide_eq_true c)] at hm
 refine Cr<|As rfl rfl<|Te<|Ct<|Xb<|Xr ?_
 obtain rfl := o1 hm
 exact rM (rs := [.tmp 2]) (vs := [iv 3]) ⟨rfl, trivial⟩ ⟨rfl, rfl⟩ (.refl _) lr
 rw [if_neg (of_decide_eq_false c)] at hm
 refine Cr<|Ts rfl (q1 rfl rfl)<|As rfl rfl<|Te ?_
 refine Cc _ rfl (fun d => ?_) (fun d => ?_)
 rw [if_pos (of_decide_eq_true d)] at hm
 refine Cr<|As rfl rfl<|Te<|Ct<|Xb<|Xr ?_
 obtain rfl := o1 hm
 exact rM (rs := [.tmp 2]) (vs := [iv 4]) ⟨rfl, trivial⟩ ⟨rfl, rfl⟩ (.refl _) lr
 rw [if_neg (of_decide_eq_false d)] at hm
 refine Ck<|Xm<|Xn<|Cr<|As rfl rfl<|Te<|Ct ?_
 obtain rfl := o1 hm
 exact rM (rs := [.tmp 2]) (vs := [iv 0]) ⟨rfl, trivial⟩ ⟨rfl, rfl⟩ (.refl _) lr

set_option maxRecDepth 20000 in
theorem cLineWithin (b : Base) (R : Hp) (c : Int) (d : Int) (e : Int) (f : Bool) (hm : mLineWithin c d e = some f) :
    CallsG Tryd.prog 29 [iv c, iv d, iv e] b (R) (fun v b' hp' => bv f = v ∧ R = hp') := by
 refine fE 15 Tryd.func29 rfl Tryd.ntmps29 rfl ?_
 unfold mLineWithin at hm
 refine Cr<|As rfl rfl<|Te ?_
 obtain ⟨g, i, j⟩ := bS hm
 refine Cj (fun h e' hp' => [(6, bv g)] = e' ∧ R = hp' ∧ b.Le h) ?_ ?_
 have hm := i
 refine Cg<|M rfl rfl<|M rfl rfl ?_
 refine Tb rfl (q6 rfl rfl) (fun a => ?_) (fun a => ?_)
 rw [if_pos a] at hm
 refine M rfl rfl<|Ys 10 rfl rfl rfl<|M rfl rfl<|Ys 10 rfl rfl rfl<|M rfl rfl<|Ys 10 rfl rfl rfl<|Ts rfl (q4 rfl rfl)<|Ts rfl (pT rfl rfl)<|As rfl rfl<|Tn ?_
 obtain rfl := o1 hm
 exact xJ ⟨rfl, rfl, lr⟩ (.refl _)
 rw [if_neg a] at hm
 refine M rfl rfl<|No 10 rfl rfl rfl rfl rfl<|No 10 rfl rfl rfl rfl rfl<|No 10 rfl rfl rfl rfl rfl<|Ts rfl (pF rfl rfl)<|As rfl rfl<|Tn ?_
 obtain rfl := o1 hm
 exact xJ ⟨rfl, rfl, lr⟩ (.refl _)
 rintro h _ _ ⟨rfl, rfl, k⟩
 have hm := j
 refine Ct ?_
 obtain rfl := o1 hm
 exact rM (rs := [.tmp 6]) (vs := [bv g]) ⟨rfl, trivial⟩ ⟨rfl, rfl⟩ (.refl _) k

set_option maxRecDepth 20000 in
theorem cLineCheckSection (b : Base) (R : Hp) (a : ApiSection) (c : Int) (F : Int) (hm : mLineCheckSection a c = some F) :
    CallsG Tryd.prog 18 [.agg #[iv a.Kind, iv a.Length, iv a.Grade, iv a.Speed, iv a.Slow, iv a.Station, bv a.Axles], iv c] b (R) (fun v b' hp' => iv F = v ∧ R = hp') := by
 refine fE 84 Tryd.func18 rfl Tryd.ntmps18 rfl ?_
 unfold mLineCheckSection at hm
 refine Cr<|Do rfl (uB _ rfl rfl) ?_
 rintro _ _ ⟨g, rfl, rfl⟩
 refine As rfl rfl<|Te<|Cs<|Di mixed (.refl _)<|E0 0 rfl (sF rfl fld39_0)<|Es 1 rfl (sL 0 rfl one3 rfl rfl)<|E0 2 rfl (q1 rfl rfl)<|E0 3 rfl (sF rfl fld39_0)<|Es 4 rfl (sL 0 rfl one3 rfl rfl)<|E0 5 rfl (q1 rfl rfl) ?_
 refine E0 6 rfl (sF rfl fld39_0)<|Es 7 rfl (sL 0 rfl one3 rfl rfl)<|E0 8 rfl (q1 rfl rfl)<|E0 9 rfl (sA rfl)<|E0 10 rfl (sA rfl)<|E0 11 rfl (sA rfl)<|Eo<|Dd (by kernel_rfl)<|Xn<|Cs ?_
 refine Cb<|Cr<|Ts rfl (sF rfl fld39_0)<|Ts rfl (sL 0 rfl one3 rfl rfl) ?_
 obtain ⟨L, O, hm⟩ := bS hm
 refine Do rfl (uW _ call28 rfl (fun w ho => cLineEnds _ [] a.Kind L O) (fun _ _ _ h => h.2.symm)) ?_
 rintro _ _ ⟨⟨_, rfl, _⟩, rfl⟩
 refine Ts rfl (q1 rfl rfl)<|As rfl rfl<|Te ?_
 refine Cc _ rfl (fun j => ?_) (fun j => ?_)
 rw [if_pos (of_decide_eq_true j)] at hm
 refine Cr<|As rfl rfl<|Te<|Ct<|Xb<|Xr ?_
 obtain rfl := o1 hm
 exact rM (rs := [.tmp 4]) (vs := [iv 1]) ⟨rfl, trivial⟩ ⟨rfl, rfl⟩ (.cons _ (.refl _)) lr
 rw [if_neg (of_decide_eq_false j)] at hm
 obtain ⟨S, T, U⟩ := bS hm
 refine Cj (fun k e' hp' => [(1, iv c), (2, pb g), (5, .bool (decide (a.Kind = 2))), (6, .bool (decide (a.Kind = 1))), (7, .bool (decide (a.Kind = 3))), (22, bv S)] = e' ∧ (g, Cl 39 [iv a.Kind, iv a.Length, iv a.Grade, iv a.Speed, iv a.Slow, iv a.Station, bv a.Axles]) :: R = hp' ∧ b.Le k) ?_ ?_
 have hm := T
 refine Cg<|Ts rfl (sF rfl fld39_1)<|Ts rfl (sL 0 rfl one3 rfl rfl) ?_
 obtain ⟨G, V, hm⟩ := bS hm
 refine Do rfl (uW _ call29 rfl (fun w ho => cLineWithin _ [] a.Length 10 3000 G V) (fun _ _ _ h => h.2.symm)) ?_
 rintro _ _ ⟨⟨_, rfl, _⟩, rfl⟩
 rcases Bool.eq_false_or_eq_true G with d | d
 rw [if_pos d] at hm
 refine Tr 25 rfl (v' := .bool true) (by rw [d] <;> rfl)<|Ts rfl (st_not_t rfl)<|M rfl rfl<|Ys 27 rfl rfl rfl<|Ts rfl (sF rfl fld39_2)<|Ys 27 rfl rfl rfl<|Ts rfl (sL 0 rfl one3 rfl rfl)<|Ys 27 rfl rfl rfl ?_
 obtain ⟨H, W, hm⟩ := bS hm
 refine Do rfl (uW _ call29 rfl (fun w ho => cLineWithin _ [] a.Grade (-40) 40 H W) (fun _ _ _ h => h.2.symm)) ?_
 rintro _ _ ⟨⟨_, rfl, _⟩, rfl⟩
 rcases Bool.eq_false_or_eq_true H with e | e
 rw [if_pos e] at hm
 refine Tr 30 rfl (v' := .bool true) (by rw [e] <;> rfl)<|Ys 27 rfl rfl rfl<|Ts rfl (st_not_t rfl)<|Ts rfl (pF rfl rfl)<|M rfl rfl<|Ys 33 rfl rfl rfl<|Ts rfl (sF rfl fld39_3)<|Ys 33 rfl rfl rfl<|Ts rfl (sL 0 rfl one3 rfl rfl)<|Ys 33 rfl rfl rfl ?_
 obtain ⟨X, Y, hm⟩ := bS hm
 refine Do rfl (uW _ call29 rfl (fun w ho => cLineWithin _ [] a.Speed 300 6000 X Y) (fun _ _ _ h => h.2.symm)) ?_
 rintro _ _ ⟨⟨_, rfl, _⟩, rfl⟩
 refine Ys 33 rfl rfl rfl<|Ts rfl (sn2 rfl)<|Ts rfl (pF rfl rfl)<|As rfl rfl<|Tn ?_
 obtain rfl := o1 hm
 exact xJ ⟨rfl, rfl, lr⟩ (.refl _)
 rw [if_neg (fun hh => Bool.noConfusion (hh.symm.trans e))] at hm
 refine Tr 30 rfl (v' := .bool false) (by rw [e] <;> rfl)<|Ys 27 rfl rfl rfl<|Ts rfl (st_not_f rfl)<|Ts rfl (pF rfl rfl)<|M rfl rfl<|No 33 rfl rfl rfl rfl rfl<|No 33 rfl rfl rfl rfl rfl<|No 33 rfl rfl rfl rfl rfl<|No 33 rfl rfl rfl rfl rfl<|Ts rfl (pT rfl rfl) ?_
 refine As rfl rfl<|Tn ?_
 obtain rfl := o1 hm
 exact xJ ⟨rfl, rfl, lr⟩ (.refl _)
 rw [if_neg (fun hh => Bool.noConfusion (hh.symm.trans d))] at hm
 refine Tr 25 rfl (v' := .bool false) (by rw [d] <;> rfl)<|Ts rfl (st_not_f rfl)<|M rfl rfl<|No 27 rfl rfl rfl rfl rfl<|No 27 rfl rfl rfl rfl rfl<|No 27 rfl rfl rfl rfl rfl<|No 27 rfl rfl rfl rfl rfl<|Ts rfl (pT rfl rfl)<|M rfl rfl<|No 33 rfl rfl rfl rfl rfl ?_
 refine No 33 rfl rfl rfl rfl rfl<|No 33 rfl rfl rfl rfl rfl<|No 33 rfl rfl rfl rfl rfl<|Ts rfl (pT rfl rfl)<|As rfl rfl<|Tn ?_
 obtain rfl := o1 hm
 exact xJ ⟨rfl, rfl, lr⟩ (.refl _)
 rintro k _ _ ⟨rfl, rfl, i⟩
 have hm := U
 refine Cc _ rfl (fun l => ?_) (fun l => ?_)
 rw [if_pos l] at hm
 refine Cr<|As rfl rfl<|Te<|Ct<|Xb<|Xr ?_
 obtain rfl := o1 hm
 exact rM (rs := [.tmp 4]) (vs := [iv 2]) ⟨rfl, trivial⟩ ⟨rfl, rfl⟩ (.cons _ (.refl _)) i
 rw [if_neg (fun hh => Bool.noConfusion (hh.symm.trans l))] at hm
 obtain ⟨Z, aa, ab⟩ := bS hm
 refine Cj (fun m e' hp' => [(2, pb g), (5, .bool (decide (a.Kind = 2))), (6, .bool (decide (a.Kind = 1))), (7, .bool (decide (a.Kind = 3))), (39, bv Z)] = e' ∧ (g, Cl 39 [iv a.Kind, iv a.Length, iv a.Grade, iv a.Speed, iv a.Slow, iv a.Station, bv a.Axles]) :: R = hp' ∧ k.Le m) ?_ ?_
 have hm := aa
 refine Cg ?_
 refine Tb rfl (sM rfl) (fun n => ?_) (fun n => ?_)
 rw [if_pos n] at hm
 refine M rfl rfl<|Ys 41 rfl rfl rfl<|Ts rfl (sF rfl fld39_4)<|Ys 41 rfl rfl rfl<|Ts rfl (sL 0 rfl one3 rfl rfl)<|Ys 41 rfl rfl rfl<|Ts rfl (sF rfl fld39_3)<|Ys 41 rfl rfl rfl<|Ts rfl (sL 0 rfl one3 rfl rfl)<|Ys 41 rfl rfl rfl ?_
 obtain ⟨I, ac, hm⟩ := bS hm
 refine Do rfl (uW _ call29 rfl (fun w ho => cLineWithin _ [] a.Slow 300 a.Speed I ac) (fun _ _ _ h => h.2.symm)) ?_
 rintro _ _ ⟨⟨_, rfl, _⟩, rfl⟩
 rcases Bool.eq_false_or_eq_true I with f | f
 rw [if_pos f] at hm
 refine Tr 46 rfl (v' := .bool true) (by rw [f] <;> rfl)<|Ys 41 rfl rfl rfl<|Ts rfl (st_not_t rfl)<|Ts rfl (pT rfl rfl)<|M rfl rfl<|Ys 49 rfl rfl rfl ?_
 refine Tb rfl (sM rfl) (fun o => ?_) (fun o => ?_)
 rw [if_pos o] at hm
 refine Ys 49 rfl rfl rfl<|M rfl rfl<|Ys 51 rfl rfl rfl<|Ts rfl (sF rfl fld39_5)<|Ys 51 rfl rfl rfl<|Ts rfl (sL 0 rfl one3 rfl rfl)<|Ys 51 rfl rfl rfl<|M rfl rfl<|Ys 51 rfl rfl rfl ?_
 obtain ⟨ad, ae, hm⟩ := bS hm
 refine Do rfl (uW _ call29 rfl (fun w ho => cLineWithin _ [] a.Station 0 c ad ae) (fun _ _ _ h => h.2.symm)) ?_
 rintro _ _ ⟨⟨_, rfl, _⟩, rfl⟩
 refine Ys 51 rfl rfl rfl<|Ts rfl (sn2 rfl)<|Ys 49 rfl rfl rfl<|Ts rfl (pT rfl rfl)<|Ts rfl (pF rfl rfl)<|As rfl rfl<|Tn ?_
 obtain rfl := o1 hm
 exact xJ ⟨rfl, rfl, lr⟩ (.refl _)
 rw [if_neg o] at hm
 refine Ys 49 rfl rfl rfl<|M rfl rfl<|No 51 rfl rfl rfl rfl rfl<|No 51 rfl rfl rfl rfl rfl<|No 51 rfl rfl rfl rfl rfl<|No 51 rfl rfl rfl rfl rfl<|No 51 rfl rfl rfl rfl rfl<|Ys 49 rfl rfl rfl<|Ts rfl (pF rfl rfl)<|Ts rfl (pF rfl rfl) ?_
 refine As rfl rfl<|Tn ?_
 obtain rfl := o1 hm
 exact xJ ⟨rfl, rfl, lr⟩ (.refl _)
 rw [if_neg (fun hh => Bool.noConfusion (hh.symm.trans f))] at hm
 refine Tr 46 rfl (v' := .bool false) (by rw [f] <;> rfl)<|Ys 41 rfl rfl rfl<|Ts rfl (st_not_f rfl)<|Ts rfl (pT rfl rfl)<|M rfl rfl<|No 49 rfl rfl rfl rfl rfl<|No 49 rfl rfl rfl rfl rfl<|No 51 rfl rfl rfl rfl rfl<|No 51 rfl rfl rfl rfl rfl<|No 51 rfl rfl rfl rfl rfl ?_
 refine No 51 rfl rfl rfl rfl rfl<|No 51 rfl rfl rfl rfl rfl<|No 49 rfl rfl rfl rfl rfl<|Ts rfl (pT rfl rfl)<|As rfl rfl<|Tn ?_
 obtain rfl := o1 hm
 exact xJ ⟨rfl, rfl, lr⟩ (.refl _)
 rw [if_neg n] at hm
 refine M rfl rfl<|No 41 rfl rfl rfl rfl rfl<|No 41 rfl rfl rfl rfl rfl<|No 41 rfl rfl rfl rfl rfl<|No 41 rfl rfl rfl rfl rfl<|No 41 rfl rfl rfl rfl rfl<|No 41 rfl rfl rfl rfl rfl<|Ts rfl (pF rfl rfl)<|M rfl rfl<|Ys 49 rfl rfl rfl ?_
 refine Tb rfl (sM rfl) (fun p => ?_) (fun p => ?_)
 rw [if_pos p] at hm
 refine Ys 49 rfl rfl rfl<|M rfl rfl<|Ys 51 rfl rfl rfl<|Ts rfl (sF rfl fld39_5)<|Ys 51 rfl rfl rfl<|Ts rfl (sL 0 rfl one3 rfl rfl)<|Ys 51 rfl rfl rfl<|M rfl rfl<|Ys 51 rfl rfl rfl ?_
 obtain ⟨af, ag, hm⟩ := bS hm
 refine Do rfl (uW _ call29 rfl (fun w ho => cLineWithin _ [] a.Station 0 c af ag) (fun _ _ _ h => h.2.symm)) ?_
 rintro _ _ ⟨⟨_, rfl, _⟩, rfl⟩
 refine Ys 51 rfl rfl rfl<|Ts rfl (sn2 rfl)<|Ys 49 rfl rfl rfl<|Ts rfl (pT rfl rfl)<|Ts rfl (pF rfl rfl)<|As rfl rfl<|Tn ?_
 obtain rfl := o1 hm
 exact xJ ⟨rfl, rfl, lr⟩ (.refl _)
 rw [if_neg p] at hm
 refine Ys 49 rfl rfl rfl<|M rfl rfl<|No 51 rfl rfl rfl rfl rfl<|No 51 rfl rfl rfl rfl rfl<|No 51 rfl rfl rfl rfl rfl<|No 51 rfl rfl rfl rfl rfl<|No 51 rfl rfl rfl rfl rfl<|Ys 49 rfl rfl rfl<|Ts rfl (pF rfl rfl)<|Ts rfl (pF rfl rfl) ?_
 refine As rfl rfl<|Tn ?_
 obtain rfl := o1 hm
 exact xJ ⟨rfl, rfl, lr⟩ (.refl _)
 rintro m _ _ ⟨rfl, rfl, q⟩
 have hm := ab
 refine Cc _ rfl (fun r => ?_) (fun r => ?_)
 rw [if_pos r] at hm
 refine Cr<|As rfl rfl<|Te<|Ct<|Xb<|Xr ?_
 obtain rfl := o1 hm
 exact rM (rs := [.tmp 4]) (vs := [iv 2]) ⟨rfl, trivial⟩ ⟨rfl, rfl⟩ (.cons _ (.refl _)) (i.trans q)
 rw [if_neg (fun hh => Bool.noConfusion (hh.symm.trans r))] at hm
 obtain ⟨ah, ai, aj⟩ := bS hm
 refine Cj (fun J e' hp' => [(59, bv ah)] = e' ∧ R = hp' ∧ m.Le J) ?_ ?_
 have hm := ai
 refine Cg<|Ts rfl (sF rfl fld39_4)<|Ts rfl (sL 0 rfl one3 rfl rfl) ?_
 refine Tb rfl (q2 rfl rfl) (fun s => ?_) (fun s => ?_)
 rw [if_pos s] at hm
 refine M rfl rfl<|Ys 63 rfl rfl rfl ?_
 refine Tb rfl (sM rfl) (fun t => ?_) (fun t => ?_)
 rw [if_pos t] at hm
 refine Ys 63 rfl rfl rfl<|Ts rfl (st_not_t rfl)<|Ts rfl (pT rfl rfl)<|M rfl rfl<|Ys 67 rfl rfl rfl<|Ts rfl (sF rfl fld39_5)<|Ys 67 rfl rfl rfl<|Ts rfl (sL 0 rfl one3 rfl rfl)<|Ys 67 rfl rfl rfl ?_
 refine Tb rfl (q2 rfl rfl) (fun u => ?_) (fun u => ?_)
 rw [if_pos u] at hm
 refine Ys 67 rfl rfl rfl<|M rfl rfl<|Ys 71 rfl rfl rfl ?_
 refine Tb rfl (sM rfl) (fun x => ?_) (fun x => ?_)
 rw [if_pos x] at hm
 refine Ys 71 rfl rfl rfl<|Ts rfl (st_not_t rfl)<|Ys 67 rfl rfl rfl<|Ts rfl (pT rfl rfl)<|Ts rfl (pF rfl rfl)<|M rfl rfl<|Ys 76 rfl rfl rfl<|Ts rfl (sF rfl fld39_2)<|Ys 76 rfl rfl rfl<|Ts rfl (sL 0 rfl one3 rfl rfl) ?_
 refine Ys 76 rfl rfl rfl ?_
 refine Tb rfl (q2 rfl rfl) (fun y => ?_) (fun y => ?_)
 rw [if_pos y] at hm
 refine Ys 76 rfl rfl rfl<|M rfl rfl<|Ys 80 rfl rfl rfl<|M rfl rfl<|Ys 76 rfl rfl rfl<|Ts rfl (pT rfl rfl)<|Ts rfl (pF rfl rfl)<|As rfl rfl<|Tn ?_
 obtain rfl := o1 hm
 exact xJ ⟨rfl, rfl, lr⟩ (.cons _ (.refl _))
 rw [if_neg y] at hm
 refine Ys 76 rfl rfl rfl<|M rfl rfl<|No 80 rfl rfl rfl rfl rfl<|Ys 76 rfl rfl rfl<|Ts rfl (pF rfl rfl)<|Ts rfl (pF rfl rfl)<|As rfl rfl<|Tn ?_
 obtain rfl := o1 hm
 exact xJ ⟨rfl, rfl, lr⟩ (.cons _ (.refl _))
 rw [if_neg x] at hm
 refine Ys 71 rfl rfl rfl<|Ts rfl (st_not_f rfl)<|Ys 67 rfl rfl rfl<|Ts rfl (pT rfl rfl)<|Ts rfl (pF rfl rfl)<|M rfl rfl<|No 76 rfl rfl rfl rfl rfl<|No 76 rfl rfl rfl rfl rfl<|No 76 rfl rfl rfl rfl rfl<|No 76 rfl rfl rfl rfl rfl ?_
 refine No 80 rfl rfl rfl rfl rfl<|No 76 rfl rfl rfl rfl rfl<|Ts rfl (pT rfl rfl)<|As rfl rfl<|Tn ?_
 obtain rfl := o1 hm
 exact xJ ⟨rfl, rfl, lr⟩ (.cons _ (.refl _))
 rw [if_neg u] at hm
 refine Ys 67 rfl rfl rfl<|M rfl rfl<|No 71 rfl rfl rfl rfl rfl<|No 71 rfl rfl rfl rfl rfl<|Ys 67 rfl rfl rfl<|Ts rfl (pF rfl rfl)<|Ts rfl (pF rfl rfl)<|M rfl rfl<|Ys 76 rfl rfl rfl<|Ts rfl (sF rfl fld39_2) ?_
 refine Ys 76 rfl rfl rfl<|Ts rfl (sL 0 rfl one3 rfl rfl)<|Ys 76 rfl rfl rfl ?_
 refine Tb rfl (q2 rfl rfl) (fun z => ?_) (fun z => ?_)
 rw [if_pos z] at hm
 refine Ys 76 rfl rfl rfl<|M rfl rfl<|Ys 80 rfl rfl rfl<|M rfl rfl<|Ys 76 rfl rfl rfl<|Ts rfl (pT rfl rfl)<|Ts rfl (pF rfl rfl)<|As rfl rfl<|Tn ?_
 obtain rfl := o1 hm
 exact xJ ⟨rfl, rfl, lr⟩ (.cons _ (.refl _))
 rw [if_neg z] at hm
 refine Ys 76 rfl rfl rfl<|M rfl rfl<|No 80 rfl rfl rfl rfl rfl<|Ys 76 rfl rfl rfl<|Ts rfl (pF rfl rfl)<|Ts rfl (pF rfl rfl)<|As rfl rfl<|Tn ?_
 obtain rfl := o1 hm
 exact xJ ⟨rfl, rfl, lr⟩ (.cons _ (.refl _))
 rw [if_neg t] at hm
 refine Ys 63 rfl rfl rfl<|Ts rfl (st_not_f rfl)<|Ts rfl (pT rfl rfl)<|M rfl rfl<|No 67 rfl rfl rfl rfl rfl<|No 67 rfl rfl rfl rfl rfl<|No 67 rfl rfl rfl rfl rfl<|No 67 rfl rfl rfl rfl rfl<|No 71 rfl rfl rfl rfl rfl<|No 71 rfl rfl rfl rfl rfl ?_
 refine No 67 rfl rfl rfl rfl rfl<|Ts rfl (pT rfl rfl)<|M rfl rfl<|No 76 rfl rfl rfl rfl rfl<|No 76 rfl rfl rfl rfl rfl<|No 76 rfl rfl rfl rfl rfl<|No 76 rfl rfl rfl rfl rfl<|No 80 rfl rfl rfl rfl rfl<|No 76 rfl rfl rfl rfl rfl<|Ts rfl (pT rfl rfl) ?_
 refine As rfl rfl<|Tn ?_
 obtain rfl := o1 hm
 exact xJ ⟨rfl, rfl, lr⟩ (.cons _ (.refl _))
 rw [if_neg s] at hm
 refine M rfl rfl<|No 63 rfl rfl rfl rfl rfl<|No 63 rfl rfl rfl rfl rfl<|Ts rfl (pF rfl rfl)<|M rfl rfl<|Ys 67 rfl rfl rfl<|Ts rfl (sF rfl fld39_5)<|Ys 67 rfl rfl rfl<|Ts rfl (sL 0 rfl one3 rfl rfl)<|Ys 67 rfl rfl rfl ?_
 refine Tb rfl (q2 rfl rfl) (fun A => ?_) (fun A => ?_)
 rw [if_pos A] at hm
 refine Ys 67 rfl rfl rfl<|M rfl rfl<|Ys 71 rfl rfl rfl ?_
 refine Tb rfl (sM rfl) (fun B => ?_) (fun B => ?_)
 rw [if_pos B] at hm
 refine Ys 71 rfl rfl rfl<|Ts rfl (st_not_t rfl)<|Ys 67 rfl rfl rfl<|Ts rfl (pT rfl rfl)<|Ts rfl (pF rfl rfl)<|M rfl rfl<|Ys 76 rfl rfl rfl<|Ts rfl (sF rfl fld39_2)<|Ys 76 rfl rfl rfl<|Ts rfl (sL 0 rfl one3 rfl rfl) ?_
 refine Ys 76 rfl rfl rfl ?_
 refine Tb rfl (q2 rfl rfl) (fun C => ?_) (fun C => ?_)
 rw [if_pos C] at hm
 refine Ys 76 rfl rfl rfl<|M rfl rfl<|Ys 80 rfl rfl rfl<|M rfl rfl<|Ys 76 rfl rfl rfl<|Ts rfl (pT rfl rfl)<|Ts rfl (pF rfl rfl)<|As rfl rfl<|Tn ?_
 obtain rfl := o1 hm
 exact xJ ⟨rfl, rfl, lr⟩ (.cons _ (.refl _))
 rw [if_neg C] at hm
 refine Ys 76 rfl rfl rfl<|M rfl rfl<|No 80 rfl rfl rfl rfl rfl<|Ys 76 rfl rfl rfl<|Ts rfl (pF rfl rfl)<|Ts rfl (pF rfl rfl)<|As rfl rfl<|Tn ?_
 obtain rfl := o1 hm
 exact xJ ⟨rfl, rfl, lr⟩ (.cons _ (.refl _))
 rw [if_neg B] at hm
 refine Ys 71 rfl rfl rfl<|Ts rfl (st_not_f rfl)<|Ys 67 rfl rfl rfl<|Ts rfl (pT rfl rfl)<|Ts rfl (pF rfl rfl)<|M rfl rfl<|No 76 rfl rfl rfl rfl rfl<|No 76 rfl rfl rfl rfl rfl<|No 76 rfl rfl rfl rfl rfl<|No 76 rfl rfl rfl rfl rfl ?_
 refine No 80 rfl rfl rfl rfl rfl<|No 76 rfl rfl rfl rfl rfl<|Ts rfl (pT rfl rfl)<|As rfl rfl<|Tn ?_
 obtain rfl := o1 hm
 exact xJ ⟨rfl, rfl, lr⟩ (.cons _ (.refl _))
 rw [if_neg A] at hm
 refine Ys 67 rfl rfl rfl<|M rfl rfl<|No 71 rfl rfl rfl rfl rfl<|No 71 rfl rfl rfl rfl rfl<|Ys 67 rfl rfl rfl<|Ts rfl (pF rfl rfl)<|Ts rfl (pF rfl rfl)<|M rfl rfl<|Ys 76 rfl rfl rfl<|Ts rfl (sF rfl fld39_2) ?_
 refine Ys 76 rfl rfl rfl<|Ts rfl (sL 0 rfl one3 rfl rfl)<|Ys 76 rfl rfl rfl ?_
 refine Tb rfl (q2 rfl rfl) (fun D => ?_) (fun D => ?_)
 rw [if_pos D] at hm
 refine Ys 76 rfl rfl rfl<|M rfl rfl<|Ys 80 rfl rfl rfl<|M rfl rfl<|Ys 76 rfl rfl rfl<|Ts rfl (pT rfl rfl)<|Ts rfl (pF rfl rfl)<|As rfl rfl<|Tn ?_
 obtain rfl := o1 hm
 exact xJ ⟨rfl, rfl, lr⟩ (.cons _ (.refl _))
 rw [if_neg D] at hm
 refine Ys 76 rfl rfl rfl<|M rfl rfl<|No 80 rfl rfl rfl rfl rfl<|Ys 76 rfl rfl rfl<|Ts rfl (pF rfl rfl)<|Ts rfl (pF rfl rfl)<|As rfl rfl<|Tn ?_
 obtain rfl := o1 hm
 exact xJ ⟨rfl, rfl, lr⟩ (.cons _ (.refl _))
 rintro J _ _ ⟨rfl, rfl, K⟩
 have hm := aj
 refine Cc _ rfl (fun E => ?_) (fun E => ?_)
 rw [if_pos E] at hm
 refine Cr<|As rfl rfl<|Te<|Ct<|Xb<|Xr ?_
 obtain rfl := o1 hm
 exact rM (rs := [.tmp 4]) (vs := [iv 1]) ⟨rfl, trivial⟩ ⟨rfl, rfl⟩ (.refl _) (i.trans (q.trans K))
 rw [if_neg (fun hh => Bool.noConfusion (hh.symm.trans E))] at hm
 refine Ck<|Xm<|Xn<|Cr<|As rfl rfl<|Te<|Ct ?_
 obtain rfl := o1 hm
 exact rM (rs := [.tmp 4]) (vs := [iv 0]) ⟨rfl, trivial⟩ ⟨rfl, rfl⟩ (.refl _) (i.trans (q.trans K))

set_option maxRecDepth 20000 in
theorem cLineHas (b : Base) (R : Hp) (a : ApiNet) (c : LineEnd) (i : OA) (j : Nat) (k : OA) (l : Nat) (m : OA) (n : Nat) (o : OA) (p : Nat) (q : OA) (r : Nat) (U : FZ RT.str b.w i j a.Stations) (A : FZ rApiSection b.w k l a.Sections) (V : FZ rApiLink b.w m n a.Links) (W : FZ rApiSignal b.w o p a.Signals) (X : FZ rApiGate b.w q r a.Gates) (s : Bool) (hm : mLineHas a c = some s) :
    CallsG Tryd.prog 30 [.agg #[sv i a.Stations j, sv k a.Sections l, sv m a.Links n, sv o a.Signals p, sv q a.Gates r], .agg #[iv c.section_, iv c.end_]] b (R) (fun v b' hp' => bv s = v ∧ R = hp') := by
 refine fE 26 Tryd.func30 rfl Tryd.ntmps30 rfl ?_
 unfold mLineHas at hm
 refine Cr<|Do rfl (uB _ rfl rfl) ?_
 rintro _ _ ⟨Y, rfl, rfl⟩
 refine Do rfl (uB _ rfl rfl) ?_
 rintro _ _ ⟨Z, rfl, rfl⟩
 refine As rfl rfl<|Te ?_
 obtain ⟨t, B, C⟩ := bS hm
 refine Cj (fun u e' hp' => [(4, bv t)] = e' ∧ R = hp' ∧ b.Le u) ?_ ?_
 have hm := B
 obtain ⟨_, d, hm⟩ := bS hm
 obtain ⟨f, x, hm⟩ := bS hm
 rcases Bool.eq_false_or_eq_true f with e | e
 rw [if_pos e] at hm
 obtain ⟨D, E, hm⟩ := bS hm
 obtain ⟨y, F, hm⟩ := bS hm
 obtain ⟨_, g, hm⟩ := bS hm
 obtain ⟨G, H, hm⟩ := bS hm
 refine Di mixed (.refl _)<|E0 0 rfl (sF rfl fld79_0)<|Es 1 rfl (sL 0 rfl one3 rfl rfl)<|E0 2 rfl (sF rfl fld28_1)<|Es 3 rfl (sL 1 rfl one23 rfl rfl)<|E0 4 rfl (sE rfl sl23) ?_
 have d := (kS d).2
 refine E0 5 rfl (sb rfl rfl d)<|Eo<|Da [6] (by kernel_rfl) rfl ?_
 refine Rd2 lr rfl rfl (uW _ call29 rfl (fun w ho => cLineWithin _ [] c.section_ 0 ((a.Sections.length : Int) - 1) f x) (fun _ _ _ h => h.2.symm)) ?_ ?_
 rintro _ _ ⟨⟨_, rfl, _⟩, rfl⟩
 refine ⟨.inr (.refl _), ?_⟩
 refine d_resp 11 rfl (v' := .bool true) (by rw [e])<|Ei lr (.refl _)<|E0 7 rfl (sM rfl)<|Yz 8 12 rfl (sF rfl fld79_1)<|Ey 9 12 rfl (sL 0 rfl one3 rfl rfl)<|Yz 10 12 rfl (sF rfl fld28_1)<|Ey 11 12 rfl (sL 1 rfl one23 rfl rfl)<|Yz 12 12 rfl (sF rfl fld79_0)<|Ey 13 12 rfl (sL 0 rfl one3 rfl rfl) ?_
 obtain ⟨I, J, K⟩ := iS E
 obtain ⟨aa, L, O, z, S⟩ := FZ.get (sz := 7) rfl (by decide) A K
 obtain ⟨_, _, rfl, rfl, ⟨_, _, rfl, rfl, ⟨_, _, rfl, rfl, ⟨_, _, rfl, rfl, ⟨_, _, rfl, rfl, ⟨_, _, rfl, rfl, rfl⟩⟩⟩⟩⟩⟩ := L
 refine Yz 14 12 rfl (sI I rfl rfl J S z sl23)<|Yz 15 12 rfl (sQ rfl z fld39_0)<|Ey 16 12 rfl (sO rfl one3 (O 0 _ rfl))<|Eo<|Da [17] (by kernel_rfl) rfl ?_
 refine R_doY lr rfl rfl 12 rfl rfl rfl (uW _ call28 rfl (fun w ho => cLineEnds _ [] D.Kind y F) (fun _ _ _ h => h.2.symm)) ?_ ?_
 rintro _ _ ⟨⟨_, rfl, _⟩, rfl⟩
 refine ⟨.inr (.refl _), ?_⟩
 have g := (kS g).2
 refine Ei lr (.refl _)<|Yz 18 12 rfl (sb rfl rfl g)<|Eo<|Da [19] (by kernel_rfl) rfl ?_
 refine R_doY lr rfl rfl 12 rfl rfl rfl (uW _ call29 rfl (fun w ho => cLineWithin _ [] c.end_ 0 (y - 1) G H) (fun _ _ _ h => h.2.symm)) ?_ ?_
 rintro _ _ ⟨⟨_, rfl, _⟩, rfl⟩
 refine ⟨.inr (.refl _), ?_⟩
 refine Ei lr (.refl _)<|E0 20 rfl (pT rfl rfl)<|E0 21 rfl (sA rfl)<|Eo<|Dd (by kernel_rfl) ?_
 obtain rfl := o1 hm
 exact xJ ⟨rfl, rfl, lr⟩ (.cons _ (.cons _ (.refl _)))
 exact Rn
 exact Rn
 exact Rn
 rw [if_neg (fun hh => Bool.noConfusion (hh.symm.trans e))] at hm
 refine Di mixed (.refl _)<|E0 0 rfl (sF rfl fld79_0)<|Es 1 rfl (sL 0 rfl one3 rfl rfl)<|E0 2 rfl (sF rfl fld28_1)<|Es 3 rfl (sL 1 rfl one23 rfl rfl)<|E0 4 rfl (sE rfl sl23) ?_
 have d := (kS d).2
 refine E0 5 rfl (sb rfl rfl d)<|Eo<|Da [6] (by kernel_rfl) rfl ?_
 refine Rd2 lr rfl rfl (uW _ call29 rfl (fun w ho => cLineWithin _ [] c.section_ 0 ((a.Sections.length : Int) - 1) f x) (fun _ _ _ h => h.2.symm)) ?_ ?_
 rintro _ _ ⟨⟨_, rfl, _⟩, rfl⟩
 refine ⟨.inr (.refl _), ?_⟩
 refine d_resp 11 rfl (v' := .bool false) (by rw [e])<|Ei lr (.refl _)<|E0 7 rfl (sM rfl)<|En 8 12 rfl rfl rfl<|En 9 12 rfl rfl rfl<|En 10 12 rfl rfl rfl<|En 11 12 rfl rfl rfl<|En 12 12 rfl rfl rfl<|En 13 12 rfl rfl rfl<|En 14 12 rfl rfl rfl ?_
 refine En 15 12 rfl rfl rfl<|En 16 12 rfl rfl rfl<|En 17 12 rfl rfl rfl<|En 18 12 rfl rfl rfl<|En 19 12 rfl rfl rfl<|E0 20 rfl (pF rfl rfl)<|E0 21 rfl (sA rfl)<|Eo<|Dd (by kernel_rfl) ?_
 obtain rfl := o1 hm
 exact xJ ⟨rfl, rfl, lr⟩ (.cons _ (.cons _ (.refl _)))
 exact Rn
 rintro u _ _ ⟨rfl, rfl, T⟩
 have hm := C
 refine Ct ?_
 obtain rfl := o1 hm
 exact rM (rs := [.tmp 4]) (vs := [bv t]) ⟨rfl, trivial⟩ ⟨rfl, rfl⟩ (.refl _) T

set_option maxRecDepth 20000 in
theorem cCmpIsNaN (b : Base) (R : Hp) (a : Int) (c : Bool) (hm : mCmpIsNaN a = some c) :
    CallsG Tryd.prog 40 [iv a] b (R) (fun v b' hp' => bv c = v ∧ R = hp') := by
 refine fE 6 Tryd.func40 rfl Tryd.ntmps40 rfl ?_
 unfold mCmpIsNaN at hm
 refine Cr<|As rfl rfl<|Te<|Cr<|M rfl rfl<|M rfl rfl<|Ts rfl (q2 rfl rfl)<|As rfl rfl<|Te<|Ct ?_
 obtain rfl := o1 hm
 exact rM (rs := [.tmp 2]) (vs := [.bool (decide (a ≠ a))]) ⟨rfl, trivial⟩ ⟨rfl, rfl⟩ (.refl _) lr

set_option maxRecDepth 20000 in
theorem cCmpCompare (b : Base) (R : Hp) (a : Int) (c : Int) (j : Int) (hm : mCmpCompare a c = some j) :
    CallsG Tryd.prog 32 [iv a, iv c] b (R) (fun v b' hp' => iv j = v ∧ R = hp') := by
 refine fE 20 Tryd.func32 rfl Tryd.ntmps32 rfl ?_
 unfold mCmpCompare at hm
 refine Cr<|As rfl rfl<|Te<|Cr<|M rfl rfl ?_
 obtain ⟨k, l, hm⟩ := bS hm
 refine Do rfl (uW _ call40 rfl (fun w ho => cCmpIsNaN _ [] a k l) (fun _ _ _ h => h.2.symm)) ?_
 rintro _ _ ⟨⟨_, rfl, _⟩, rfl⟩
 refine As rfl rfl<|Te<|Cr<|M rfl rfl ?_
 obtain ⟨m, n, hm⟩ := bS hm
 refine Do rfl (uW _ call40 rfl (fun w ho => cCmpIsNaN _ [] c m n) (fun _ _ _ h => h.2.symm)) ?_
 rintro _ _ ⟨⟨_, rfl, _⟩, rfl⟩
 refine As rfl rfl<|Te<|Cs<|Cr<|M rfl rfl<|Te ?_
 refine Cc _ rfl (fun d => ?_) (fun d => ?_)
 rw [if_pos d] at hm
 refine Cs<|Cr<|M rfl rfl<|Te ?_
 refine Cc _ rfl (fun e => ?_) (fun e => ?_)
 rw [if_pos e] at hm
 refine Cr<|As rfl rfl<|Te<|Ct<|Xr<|Xr ?_
 obtain rfl := o1 hm
 exact rM (rs := [.tmp 4]) (vs := [iv 0]) ⟨rfl, trivial⟩ ⟨rfl, rfl⟩ (.refl _) lr
 rw [if_neg (fun hh => Bool.noConfusion (hh.symm.trans e))] at hm
 refine Ck<|Xn<|Cr<|As rfl rfl<|Te<|Ct<|Xr ?_
 obtain rfl := o1 hm
 exact rM (rs := [.tmp 4]) (vs := [iv ((-1))]) ⟨rfl, trivial⟩ ⟨rfl, rfl⟩ (.refl _) lr
 rw [if_neg (fun hh => Bool.noConfusion (hh.symm.trans d))] at hm
 refine Ck<|Xn<|Cs<|Cr<|M rfl rfl<|Te ?_
 refine Cc _ rfl (fun f => ?_) (fun f => ?_)
 rw [if_pos f] at hm
 refine Cr<|As rfl rfl<|Te<|Ct<|Xr ?_
 obtain rfl := o1 hm
 exact rM (rs := [.tmp 4]) (vs := [iv 1]) ⟨rfl, trivial⟩ ⟨rfl, rfl⟩ (.refl _) lr
 rw [if_neg (fun hh => Bool.noConfusion (hh.symm.trans f))] at hm
 refine Ck<|Xn<|Cs<|Cr<|M rfl rfl<|M rfl rfl<|Ts rfl (q3 rfl rfl)<|Te ?_
 refine Cc _ rfl (fun g => ?_) (fun g => ?_)
 rw [if_pos (of_decide_eq_true g)] at hm
 refine Cr<|As rfl rfl<|Te<|Ct<|Xr ?_
 obtain rfl := o1 hm
 exact rM (rs := [.tmp 4]) (vs := [iv ((-1))]) ⟨rfl, trivial⟩ ⟨rfl, rfl⟩ (.refl _) lr
 rw [if_neg (of_decide_eq_false g)] at hm
 refine Ck<|Xn<|Cs<|Cr<|M rfl rfl<|M rfl rfl<|Ts rfl (q5 rfl rfl)<|Te ?_
 refine Cc _ rfl (fun i => ?_) (fun i => ?_)
 rw [if_pos (of_decide_eq_true i)] at hm
 refine Cr<|As rfl rfl<|Te<|Ct<|Xr ?_
 obtain rfl := o1 hm
 exact rM (rs := [.tmp 4]) (vs := [iv 1]) ⟨rfl, trivial⟩ ⟨rfl, rfl⟩ (.refl _) lr
 rw [if_neg (of_decide_eq_false i)] at hm
 refine Ck<|Xn<|Cr<|As rfl rfl<|Te<|Ct ?_
 obtain rfl := o1 hm
 exact rM (rs := [.tmp 4]) (vs := [iv 0]) ⟨rfl, trivial⟩ ⟨rfl, rfl⟩ (.refl _) lr

set_option maxRecDepth 20000 in
theorem cCmpOr (b : Base) (R : Hp) (a : (List Int)) (e : OA) (f : Nat) (i : FZ rI b.w e f a) (j : Int) (hm : mCmpOr a = some j) :
    CallsG Tryd.prog 31 [sv e a f] b (R) (fun v b' hp' => iv j = v ∧ R = hp') := by
 refine fE 18 Tryd.func31 rfl Tryd.ntmps31 rfl ?_
 unfold mCmpOr at hm
 refine Cr<|As rfl rfl<|Te<|Cr<|As rfl rfl<|Te<|Cs<|Cr<|M rfl rfl<|Ts rfl (sE rfl sl88) ?_
 refine M rfl rfl<|Te<|Cb ?_
 have A : a.length ≤ 9223372036854775807 := (FZ.bd i)
 obtain ⟨B, m, d⟩ := bS hm
 refine cF (fun k => fun _ => fun g e' hp' => [(3, iv 0), (6, sv e a f), (7, iv ((a.length : Int))), (8, iv ((k : Int)))] = e' ∧ R = hp' ∧ b.Le g) m ⟨rfl, rfl, lr⟩ (.refl _) ?_ ?_
 rintro k _ g _ _ C D ⟨rfl, rfl, c⟩ l n
 unfold mCmpOr_L38 at l
 have hm := l
 refine Cr<|Ts rfl (lT rfl rfl (by omega))<|Te<|Cs<|c_cond_t rfl<|Ck<|Xn<|Cs<|Cb<|Cr ?_
 obtain ⟨o, p, hm⟩ := bS hm
 obtain ⟨q, r, s⟩ := iS p
 obtain ⟨E, t, u, w, x⟩ := FZ.get (sz := 1) rfl (by decide) (i.le c) s
 obtain rfl := t
 refine Ts rfl (sI q rfl rfl r x w sl88)<|Ts rfl (sO rfl one3 (u 0 _ rfl))<|As rfl rfl<|Te<|Cr<|M rfl rfl<|M rfl rfl<|Ts rfl (q2 rfl rfl)<|Te ?_
 refine Cc _ rfl (fun h => ?_) (fun h => ?_)
 rw [if_pos (of_decide_eq_true h)] at hm
 refine Cr<|M rfl rfl<|As rfl rfl<|Te<|Ct<|Xb<|Xr<|Xr<|Xb<|Xr ?_
 have y := n _ (Option.some.inj hm).symm
 rw [y] at d
 have hm := elimR d
 obtain rfl := o1 hm
 exact rM (rs := [.tmp 2]) (vs := [iv o]) ⟨rfl, trivial⟩ ⟨rfl, rfl⟩ (.refl _) c
 rw [if_neg (of_decide_eq_false h)] at hm
 refine Ck<|Xm<|Xn<|Cg<|Ts rfl (sa rfl rfl (by omega))<|M rfl rfl<|Tn ?_
 exact xM hm ⟨rfl, rfl, (c)⟩ (.refl _)
 rintro _ g _ _ ⟨rfl, rfl, c⟩ z
 rw [z] at d
 have hm := elimL d
 refine Cr<|Ts rfl (lF rfl rfl (by omega))<|Te<|Cs<|c_cond_f rfl<|Ce<|Xe<|Xe<|Xo<|Xn ?_
 refine Cr<|M rfl rfl<|As rfl rfl<|Te<|Ct ?_
 obtain rfl := o1 hm
 exact rM (rs := [.tmp 2]) (vs := [iv 0]) ⟨rfl, trivial⟩ ⟨rfl, rfl⟩ (.refl _) c

set_option maxRecDepth 20000 in
theorem cLineCheckLinks (b : Base) (R : Hp) (c : ApiNet) (t : OA) (x : Nat) (y : OA) (z : Nat) (g : OA) (i : Nat) (A : OA) (B : Nat) (C : OA) (D : Nat) (h4 : FZ RT.str b.w t x c.Stations) (h7 : FZ rApiSection b.w y z c.Sections) (J : FZ rApiLink b.w g i c.Links) (h13 : FZ rApiSignal b.w A B c.Signals) (h16 : FZ rApiGate b.w C D c.Gates) (x638 : Int) (hm : mLineCheckLinks c = some x638) :
    CallsG Tryd.prog 19 [.agg #[sv t c.Stations x, sv y c.Sections z, sv g c.Links i, sv A c.Signals B, sv C c.Gates D]] b (R) (fun v b' hp' => iv x638 = v ∧ R = hp') := by
 refine fE 85 Tryd.func19 rfl Tryd.ntmps19 rfl ?_
 unfold mLineCheckLinks at hm
 refine Cr<|Do rfl (uB _ rfl rfl) ?_
 rintro _ _ ⟨p, rfl, rfl⟩
 refine As rfl rfl<|Te<|Cr<|Do rfl (u_mmap rLineEnd (OT.fr RT.bool) true false [_] R rfl) ?_
 rintro _ _ ⟨H, hs641, rfl, rfl, h642⟩
 refine As rfl rfl<|Te<|Cs<|Cr<|Ts rfl (sF rfl fld28_2)<|Ts rfl (sL 0 rfl one24 rfl rfl)<|Ts rfl (sE rfl sl24)<|M rfl rfl<|Te<|Cb ?_
 have hb644 : c.Links.length ≤ 9223372036854775807 := (FZ.bd J)
 obtain ⟨t1052, hl1053, q⟩ := bS hm
 refine cF (fun F => fun aa => fun K e' hp' => ∃ (f : Hp), [(1, pb p), (3, .map (some H)), (11, sv g c.Links i), (12, iv ((c.Links.length : Int))), (13, iv ((F : Int)))] = e' ∧ (p, Cl 28 [sv t c.Stations x, sv y c.Sections z, sv g c.Links i, sv A c.Signals B, sv C c.Gates D]) :: (f ++ R) = hp' ∧ b.Le K ∧ OM rLineEnd (OT.fr RT.bool) true false K.w H aa f) hl1053 ⟨hs641, rfl, rfl, lr, h642⟩ (.refl _) ?_ ?_
 rintro F aa K _ _ oL643 hknL643 ⟨f, rfl, rfl, d, V⟩ hstepL643 L
 unfold mLineCheckLinks_L643 at hstepL643
 have hm := hstepL643
 refine Cr<|Ts rfl (lT rfl rfl (by omega))<|Te<|Cs<|c_cond_t rfl<|Ck<|Xn<|Cs<|Cb<|Cr ?_
 refine M rfl rfl ?_
 obtain ⟨a, h1056, hm⟩ := bS hm
 obtain ⟨j1057, hj1058, hx1059⟩ := iS h1056
 obtain ⟨cs1060, hr1061, hcs1062, hA1063, hlt1064⟩ := FZ.get (sz := 4) rfl (by decide) (J.le d) hx1059
 obtain ⟨_, _, rfl, rfl, ⟨_, _, rfl, rfl, ⟨_, _, rfl, rfl, rfl⟩⟩⟩ := hr1061
 refine Ts rfl (sI j1057 rfl rfl hj1058 hlt1064 hA1063 sl24)<|Ts rfl (sP (vs := [iv a.A, iv a.EndA, iv a.B, iv a.EndB]) 4 rfl agg42 hA1063 rfl (fun j u hu => hcs1062 j u hu))<|Do rfl (uA [iv 0, iv 0, iv 0, iv 0] zero42 rfl) ?_
 rintro _ _ ⟨W, rfl, rfl⟩
 refine As rfl rfl<|Do rfl (uN (vs := [_, _, _, _]) 0 4 rfl rfl rfl siz42 rfl (mc rfl (mc rfl (mc rfl (mc rfl mn)))) rfl (by simp)) ?_
 rintro _ _ rfl
 refine Te ?_
 obtain ⟨_, hj1074, hk1074⟩ := bS hm
 refine Cj (fun ab e' hp' => ∃ (r : Nat), ∃ (s : Nat), [(1, pb p), (3, .map (some H)), (4, iv ((F : Int))), (5, pb W), (6, pb r), (7, pb s), (11, sv g c.Links i), (12, iv ((c.Links.length : Int))), (13, iv ((F : Int)))] = e' ∧ (p, Cl 28 [sv t c.Stations x, sv y c.Sections z, sv g c.Links i, sv A c.Signals B, sv C c.Gates D]) :: (W, Cl 42 [iv a.A, iv a.EndA, iv a.B, iv a.EndB]) :: (r, Cl 79 [iv a.A, iv a.EndA]) :: (s, Cl 79 [iv a.B, iv a.EndB]) :: (f ++ R) = hp' ∧ K.Le ab) ?_ ?_
 have hm := hj1074
 refine Di mixed (.refl _)<|E0 0 rfl (sF rfl fld42_0)<|Es 1 rfl (sL 0 rfl one3 rfl rfl)<|E0 2 rfl (sF rfl fld42_1)<|Es 3 rfl (sL 0 rfl one3 rfl rfl)<|E0 4 rfl (sB (v := .agg #[iv a.A, iv a.EndA]) [(0, iv a.A), (1, iv a.EndA)] rfl (fun _ => by kernel_rfl))<|E0 5 rfl (sF rfl fld42_2)<|Es 6 rfl (sL 0 rfl one3 rfl rfl)<|E0 7 rfl (sF rfl fld42_3)<|Es 8 rfl (sL 0 rfl one3 rfl rfl) ?_
 refine E0 9 rfl (sB (v := .agg #[iv a.B, iv a.EndB]) [(0, iv a.B), (1, iv a.EndB)] rfl (fun _ => by kernel_rfl))<|Eo<|Da [10, 11] (by kernel_rfl) rfl ?_
 refine Rd2 lr rfl rfl (uA [iv 0, iv 0] zero79 rfl) ?_ ?_
 rintro _ _ ⟨ac, rfl, rfl⟩
 refine ⟨.inr (.cons _ (.refl _)), ?_⟩
 refine Da [11] (by kernel_rfl) rfl ?_
 refine Rd2 lr rfl rfl (uA [iv 0, iv 0] zero79 rfl) ?_ ?_
 rintro _ _ ⟨ad, rfl, rfl⟩
 refine ⟨.inr (.cons _ (.cons _ (.refl _))), ?_⟩
 refine Da [12] (by kernel_rfl) rfl ?_
 refine Rd2 lr rfl rfl (uN (vs := [_, _]) 1 2 rfl rfl rfl siz79 rfl (mc rfl (mc rfl mn)) rfl (by simp)) ?_ ?_
 rintro _ _ rfl
 refine ⟨.inr (.cons _ (.cons _ (.refl _))), ?_⟩
 refine Da [13] (by kernel_rfl) rfl ?_
 refine Rd2 lr rfl rfl (uN (vs := [_, _]) 0 2 rfl rfl rfl siz79 rfl (mc rfl (mc rfl mn)) rfl (by simp)) ?_ ?_
 rintro _ _ rfl
 refine ⟨.inl (by kernel_rfl), ?_⟩
 refine Dd (by kernel_rfl) ?_
 clear hm
 refine Xp 1 rfl<|Xp 2 rfl<|Xp 3 rfl ?_
 exact xJ ⟨ac, ad, rfl, rfl, lr⟩ (.refl _)
 exact Rn
 exact Rn
 exact Rn
 refine Rd2 lr rfl rfl (uA [iv 0, iv 0] zero79 rfl) ?_ ?_
 rintro _ _ ⟨ad, rfl, rfl⟩
 refine ⟨.inr (.cons _ (.refl _)), ?_⟩
 refine Da [10] (by kernel_rfl) rfl ?_
 refine Rd2 lr rfl rfl (uA [iv 0, iv 0] zero79 rfl) ?_ ?_
 rintro _ _ ⟨ac, rfl, rfl⟩
 refine ⟨.inr (.cons _ (.cons _ (.refl _))), ?_⟩
 refine Da [12] (by kernel_rfl) rfl ?_
 refine Rd2 lr rfl rfl (uN (vs := [_, _]) 0 2 rfl rfl rfl siz79 rfl (mc rfl (mc rfl mn)) rfl (by simp)) ?_ ?_
 rintro _ _ rfl
 refine ⟨.inr (.cons _ (.cons _ (.refl _))), ?_⟩
 refine Da [13] (by kernel_rfl) rfl ?_
 refine Rd2 lr rfl rfl (uN (vs := [_, _]) 1 2 rfl rfl rfl siz79 rfl (mc rfl (mc rfl mn)) rfl (by simp)) ?_ ?_
 rintro _ _ rfl
 refine ⟨.inl (by kernel_rfl), ?_⟩
 refine Dd (by kernel_rfl) ?_
 clear hm
 refine Xp 1 rfl<|Xp 1 rfl<|Xp 2 rfl<|Xp 3 rfl ?_
 exact xJ ⟨ac, ad, rfl, rfl, lr⟩ (.refl _)
 exact Rn
 exact Rn
 exact Rn
 exact Rn
 rintro ab _ _ ⟨r, s, rfl, rfl, e⟩
 have hm := hk1074
 refine Cs<|Cb ?_
 obtain ⟨x1086, hj1087, hk1087⟩ := bS hm
 refine Cj (fun O e' hp' => [(1, pb p), (3, .map (some H)), (4, iv ((F : Int))), (5, pb W), (6, pb r), (7, pb s), (11, sv g c.Links i), (12, iv ((c.Links.length : Int))), (13, iv ((F : Int))), (28, bv x1086)] = e' ∧ (p, Cl 28 [sv t c.Stations x, sv y c.Sections z, sv g c.Links i, sv A c.Signals B, sv C c.Gates D]) :: (W, Cl 42 [iv a.A, iv a.EndA, iv a.B, iv a.EndB]) :: (r, Cl 79 [iv a.A, iv a.EndA]) :: (s, Cl 79 [iv a.B, iv a.EndB]) :: (f ++ R) = hp' ∧ ab.Le O) ?_ ?_
 have hm := hj1087
 refine Cg<|Ts rfl (sD (vs := [_, _, _, _, _]) 0 5 rfl agg28 rfl rfl rfl)<|Ts rfl (sD (vs := [_, _]) 2 2 rfl agg79 rfl rfl rfl) ?_
 obtain ⟨x1088, hcl1089, hm⟩ := bS hm
 refine Do rfl (uW _ call30 rfl (fun w ho => cLineHas _ [] c (⟨a.A, a.EndA⟩ : LineEnd) t x y z g i A B C D ((h4.le (d.trans e)).old ho) ((h7.le (d.trans e)).old ho) ((J.le (d.trans e)).old ho) ((h13.le (d.trans e)).old ho) ((h16.le (d.trans e)).old ho) x1088 hcl1089) (fun _ _ _ h => h.2.symm)) ?_
 rintro _ _ ⟨⟨_, rfl, _⟩, rfl⟩
 rcases Bool.eq_false_or_eq_true x1088 with S | S
 rw [if_pos S] at hm
 refine Tr 31 rfl (v' := .bool true) (by rw [S] <;> rfl)<|Ts rfl (st_not_t rfl)<|M rfl rfl<|Ys 33 rfl rfl rfl<|Ts rfl (sD (vs := [_, _, _, _, _]) 0 5 rfl agg28 rfl rfl rfl)<|Ys 33 rfl rfl rfl<|Ts rfl (sD (vs := [_, _]) 3 2 rfl agg79 rfl rfl rfl)<|Ys 33 rfl rfl rfl ?_
 obtain ⟨x1091, hcl1092, hm⟩ := bS hm
 refine Do rfl (uW _ call30 rfl (fun w ho => cLineHas _ [] c (⟨a.B, a.EndB⟩ : LineEnd) t x y z g i A B C D ((h4.le (d.trans e)).old ho) ((h7.le (d.trans e)).old ho) ((J.le (d.trans e)).old ho) ((h13.le (d.trans e)).old ho) ((h16.le (d.trans e)).old ho) x1091 hcl1092) (fun _ _ _ h => h.2.symm)) ?_
 rintro _ _ ⟨⟨_, rfl, _⟩, rfl⟩
 refine Ys 33 rfl rfl rfl<|Ts rfl (sn2 rfl)<|Ts rfl (pF rfl rfl)<|As rfl rfl<|Tn ?_
 obtain rfl := o1 hm
 refine Xp 3 rfl<|Xp 3 rfl<|Xp 3 rfl<|Xp 3 rfl ?_
 exact xJ ⟨rfl, rfl, lr⟩ (.refl _)
 rw [if_neg (fun hh => Bool.noConfusion (hh.symm.trans S))] at hm
 refine Tr 31 rfl (v' := .bool false) (by rw [S] <;> rfl)<|Ts rfl (st_not_f rfl)<|M rfl rfl<|No 33 rfl rfl rfl rfl rfl<|No 33 rfl rfl rfl rfl rfl<|No 33 rfl rfl rfl rfl rfl<|No 33 rfl rfl rfl rfl rfl<|Ts rfl (pT rfl rfl)<|As rfl rfl<|Tn ?_
 obtain rfl := o1 hm
 refine Xp 3 rfl<|Xp 3 rfl<|Xp 3 rfl<|Xp 3 rfl ?_
 exact xJ ⟨rfl, rfl, lr⟩ (.refl _)
 rintro O _ _ ⟨rfl, rfl, E⟩
 have hm := hk1087
 refine Cc _ rfl (fun ae => ?_) (fun ae => ?_)
 rw [if_pos ae] at hm
 refine Cr<|As rfl rfl<|Te<|Ct<|Xb<|Xr<|Xb<|Xr<|Xr<|Xb ?_
 refine Xr ?_
 have hq1094 := L _ (Option.some.inj hm).symm
 rw [hq1094] at q
 have hm := elimR q
 obtain rfl := o1 hm
 exact rM (rs := [.tmp 2]) (vs := [iv 3]) ⟨rfl, trivial⟩ ⟨rfl, rfl⟩ (.cons _ (.cons _ (.cons _ (.cons _ (ss f (.refl _)))))) (d.trans (e.trans E))
 rw [if_neg (fun hh => Bool.noConfusion (hh.symm.trans ae))] at hm
 refine Cr<|Ts rfl (sF rfl fld42_0)<|Ts rfl (sL 1 rfl one3 rfl rfl)<|Ts rfl (sF rfl fld42_2)<|Ts rfl (sL 1 rfl one3 rfl rfl)<|Ts rfl (q1 rfl rfl)<|As rfl rfl<|Te ?_
 refine Cc _ rfl (fun af => ?_) (fun af => ?_)
 rw [if_pos (of_decide_eq_true af)] at hm
 refine Cr<|As rfl rfl<|Te<|Ct<|Xb<|Xr<|Xb<|Xr<|Xr<|Xb ?_
 refine Xr ?_
 have hq1096 := L _ (Option.some.inj hm).symm
 rw [hq1096] at q
 have hm := elimR q
 obtain rfl := o1 hm
 exact rM (rs := [.tmp 2]) (vs := [iv 1]) ⟨rfl, trivial⟩ ⟨rfl, rfl⟩ (.cons _ (.cons _ (.cons _ (.cons _ (ss f (.refl _)))))) (d.trans (e.trans E))
 rw [if_neg (of_decide_eq_false af)] at hm
 refine Cr<|Ts rfl (sF rfl fld42_0)<|Ts rfl (sL 1 rfl one3 rfl rfl)<|Ts rfl (sF rfl fld42_2)<|Ts rfl (sL 1 rfl one3 rfl rfl)<|Ts rfl (q5 rfl rfl)<|As rfl rfl<|Te ?_
 refine Cc _ rfl (fun ag => ?_) (fun ag => ?_)
 rw [if_pos (of_decide_eq_true ag)] at hm
 refine Cr<|As rfl rfl<|Te<|Ct<|Xb<|Xr<|Xb<|Xr<|Xr<|Xb ?_
 refine Xr ?_
 have hq1098 := L _ (Option.some.inj hm).symm
 rw [hq1098] at q
 have hm := elimR q
 obtain rfl := o1 hm
 exact rM (rs := [.tmp 2]) (vs := [iv 5]) ⟨rfl, trivial⟩ ⟨rfl, rfl⟩ (.cons _ (.cons _ (.cons _ (.cons _ (ss f (.refl _)))))) (d.trans (e.trans E))
 rw [if_neg (of_decide_eq_false ag)] at hm
 refine Ck<|Xm<|Xn ?_
 obtain ⟨t1156, hj1155, X⟩ := bS hm
 refine Cj (fun ah e' hp' => [(1, pb p), (3, .map (some H)), (6, pb r), (7, pb s), (11, sv g c.Links i), (12, iv ((c.Links.length : Int))), (13, iv ((F : Int)))] = e' ∧ (p, Cl 28 [sv t c.Stations x, sv y c.Sections z, sv g c.Links i, sv A c.Signals B, sv C c.Gates D]) :: (r, Cl 79 [iv a.A, iv a.EndA]) :: (s, Cl 79 [iv a.B, iv a.EndB]) :: (f ++ R) = hp' ∧ O.Le ah ∧ t1156 = .inl ()) ?_ ?_
 have hm := hj1155
 refine Cr<|M rfl rfl<|Ts rfl (q5 rfl rfl)<|Te ?_
 refine Cc _ rfl (fun ai => ?_) (fun ai => ?_)
 rw [if_pos (of_decide_eq_true ai)] at hm
 refine Cr<|Ts rfl (sF rfl fld28_2)<|Ts rfl (sL 0 rfl one24 rfl rfl)<|M rfl rfl ?_
 obtain ⟨_, aj, hm⟩ := bS hm
 have aj := (kS aj).2
 refine Ts rfl (sb rfl rfl aj) ?_
 obtain ⟨I, h1160, hm⟩ := bS hm
 obtain ⟨j1161, hj1162, hx1163⟩ := iS h1160
 obtain ⟨cs1164, hr1165, hcs1166, hA1167, hlt1168⟩ := FZ.get (sz := 4) rfl (by decide) (J.le (d.trans (e.trans E))) hx1163
 obtain ⟨_, _, rfl, rfl, ⟨_, _, rfl, rfl, ⟨_, _, rfl, rfl, rfl⟩⟩⟩ := hr1165
 refine Ts rfl (sI j1161 rfl rfl hj1162 hlt1168 hA1167 sl24)<|Ts rfl (sP (vs := [iv I.A, iv I.EndA, iv I.B, iv I.EndB]) 4 rfl agg42 hA1167 rfl (fun j u hu => hcs1166 j u hu))<|Do rfl (uA [iv 0, iv 0, iv 0, iv 0] zero42 rfl) ?_
 rintro _ _ ⟨g1169, rfl, rfl⟩
 refine Do rfl (uN (vs := [_, _, _, _]) 0 4 rfl rfl rfl siz42 rfl (mc rfl (mc rfl (mc rfl (mc rfl mn)))) rfl (by simp)) ?_
 rintro _ _ rfl
 refine Te ?_
 obtain ⟨x1190, hj1191, hk1191⟩ := bS hm
 refine Cj (fun b1188 e' hp' => [(1, pb p), (3, .map (some H)), (6, pb r), (7, pb s), (11, sv g c.Links i), (12, iv ((c.Links.length : Int))), (13, iv ((F : Int))), (71, bv x1190)] = e' ∧ (p, Cl 28 [sv t c.Stations x, sv y c.Sections z, sv g c.Links i, sv A c.Signals B, sv C c.Gates D]) :: (r, Cl 79 [iv a.A, iv a.EndA]) :: (s, Cl 79 [iv a.B, iv a.EndB]) :: (f ++ R) = hp' ∧ O.Le b1188) ?_ ?_
 have hm := hj1191
 obtain ⟨m, hcl1202, hm⟩ := bS hm
 obtain ⟨n, hcl1204, hm⟩ := bS hm
 obtain ⟨x1208, hcl1209, hm⟩ := bS hm
 refine Di mixed (.refl _)<|E0 0 rfl (sF rfl fld42_0)<|Es 1 rfl (sL 0 rfl one3 rfl rfl)<|E0 2 rfl (sF rfl fld42_0)<|Es 3 rfl (sL 2 rfl one3 rfl rfl)<|E0 5 rfl (sF rfl fld42_1)<|Es 6 rfl (sL 0 rfl one3 rfl rfl)<|E0 7 rfl (sF rfl fld42_1)<|Es 8 rfl (sL 2 rfl one3 rfl rfl)<|Eo ?_
 refine Da [4] (by kernel_rfl) rfl ?_
 refine Rd2 lr rfl rfl (uW _ call32 rfl (fun w ho => cCmpCompare _ [] I.A a.A m hcl1202) (fun _ _ _ h => h.2.symm)) ?_ ?_
 rintro _ _ ⟨⟨_, rfl, _⟩, rfl⟩
 refine ⟨.inr (.refl _), ?_⟩
 refine Da [9] (by kernel_rfl) rfl ?_
 refine Rd2 lr rfl rfl (uW _ call32 rfl (fun w ho => cCmpCompare _ [] I.EndA a.EndA n hcl1204) (fun _ _ _ h => h.2.symm)) ?_ ?_
 rintro _ _ ⟨⟨_, rfl, _⟩, rfl⟩
 refine ⟨.inr (.refl _), ?_⟩
 refine Da [10] (by kernel_rfl) rfl ?_
 refine Rd2 lr rfl rfl (u_bslice (el := 3) [(0, iv m), (1, iv n)] [iv m, iv n] rfl (fun _ => by kernel_rfl)) ?_ ?_
 rintro _ _ ⟨G, rfl, rfl⟩
 refine ⟨.inr (.cons _ (.refl _)), ?_⟩
 refine d_seg 0 [_, _, _, _, _] (f ++ R) rfl rfl ?_
 have h1207 : OS 3 (OT.fr rI) O.w (.slice (some ⟨G, 0, none⟩) 2 2) [m, n] [(G, Cl 3 [iv m, iv n])] := OS.lit [[iv m], [iv n]] rfl ⟨rfl, ⟨rfl, trivial⟩⟩ rfl (by decide)
 refine Da [11] (by kernel_rfl) rfl ?_
 refine Rd2 lr rfl rfl (uW _ call31 rfl (fun w ho => cCmpOr _ [] [m, n] (some ⟨G, 0, none⟩) 2 (OS.now (o := (OT.fr rI)) (l := [m, n]) (hs := [(G, Cl 3 [iv m, iv n])]) h1207 ho (.cons _ (.cons _ (.cons _ (.cons _ (.cons _ (List.sublist_append_left _ _))))))) x1208 hcl1209) (fun _ _ _ h => h.2.symm)) ?_ ?_
 rintro _ _ ⟨⟨_, rfl, _⟩, rfl⟩
 refine ⟨.inr (.cons_cons _ (.cons_cons _ (.cons_cons _ (.cons_cons _ (.cons_cons _ (ss [(G, Cl 3 [iv m, iv n])] (.refl _))))))), ?_⟩
 refine Ei lr (.cons_cons _ (.cons_cons _ (.cons_cons _ (.cons_cons _ (.cons_cons _ (ss [(G, Cl 3 [iv m, iv n])] (.refl _)))))))<|E0 12 rfl (q6 rfl rfl)<|Eo<|Dd (by kernel_rfl) ?_
 obtain rfl := o1 hm
 refine Xp 4 rfl<|Xp 4 rfl<|Xp 3 rfl<|X2 [_, _, _, _, _] [(G, Cl 3 [iv m, iv n])] f R rfl ?_
 exact xJ ⟨rfl, rfl, lr⟩ (.cons_cons _ (.cons_cons _ (.cons_cons _ (.cons _ (.cons _ (sp f (ss [(G, Cl 3 [iv m, iv n])] (.refl _))))))))
 exact Rn
 exact Rn
 exact Rn
 exact Rn
 rintro b1188 _ _ ⟨rfl, rfl, hle1189⟩
 have hm := hk1191
 refine Cc _ rfl (fun ak => ?_) (fun ak => ?_)
 rw [if_pos ak] at hm
 refine Cr<|As rfl rfl<|Te<|Ct<|Xr<|Xb<|Xr<|Xr<|Xb<|Xr ?_
 have hq1211 := (Option.some.inj hm).symm
 rw [hq1211] at X
 have hm := elimR X
 have hq1212 := L _ (Option.some.inj hm).symm
 rw [hq1212] at q
 have hm := elimR q
 obtain rfl := o1 hm
 exact rM (rs := [.tmp 2]) (vs := [iv 5]) ⟨rfl, trivial⟩ ⟨rfl, rfl⟩ (.cons _ (.cons _ (.cons _ (ss f (.refl _))))) (d.trans (e.trans (E.trans hle1189)))
 rw [if_neg (fun hh => Bool.noConfusion (hh.symm.trans ak))] at hm
 refine Ck ?_
 have hq := (Option.some.inj hm).symm
 refine Xp 2 rfl<|Xp 2 rfl<|Xp 2 rfl ?_
 exact xJ ⟨rfl, rfl, hle1189, hq⟩ (.refl _)
 rw [if_neg (of_decide_eq_false ai)] at hm
 refine Ck ?_
 have hq := (Option.some.inj hm).symm
 refine Xp 3 rfl<|Xp 3 rfl<|Xp 2 rfl ?_
 exact xJ ⟨rfl, rfl, lr, hq⟩ (.cons_cons _ (.cons_cons _ (.cons_cons _ (.cons _ (.refl _)))))
 rintro ah _ _ ⟨rfl, rfl, T, hq1213⟩
 rw [hq1213] at X
 have hm := elimL X
 refine Cs ?_
 obtain ⟨x1229, hj1230, hk1230⟩ := bS hm
 refine Cj (fun b1227 e' hp' => [(1, pb p), (3, .map (some H)), (6, pb r), (7, pb s), (11, sv g c.Links i), (12, iv ((c.Links.length : Int))), (13, iv ((F : Int))), (79, bv x1229)] = e' ∧ (p, Cl 28 [sv t c.Stations x, sv y c.Sections z, sv g c.Links i, sv A c.Signals B, sv C c.Gates D]) :: (r, Cl 79 [iv a.A, iv a.EndA]) :: (s, Cl 79 [iv a.B, iv a.EndB]) :: (f ++ R) = hp' ∧ ah.Le b1227) ?_ ?_
 have hm := hj1230
 refine Cg<|M rfl rfl<|Ts rfl (sD (vs := [_, _]) 1 2 rfl agg79 rfl rfl rfl) ?_
 obtain ⟨al, h1236, hm⟩ := bS hm
 have hx1235 := Option.some.inj h1236
 obtain ⟨v1231, Y, hr1233⟩ := OM.lookF kok79 (z0 := false) (V.le (e.trans (E.trans T))) (key := .agg #[iv a.A, iv a.EndA]) (k := (⟨a.A, a.EndA⟩ : LineEnd)) ⟨[iv a.A, iv a.EndA], rfl, ⟨[iv a.A], _, rfl, rfl, rfl⟩⟩ mapt77 zero4 rfl
 rw [hx1235] at Y
 obtain rfl : v1231 = bv al := by have Y : [v1231] = [bv al] := Y; injection Y
 refine Ts rfl (st_mlook (ok := false) rfl rfl (fun w ho => hr1233 _ w ho (.cons _ (.cons _ (.cons _ (List.sublist_append_left _ _)))) false)) ?_
 rcases Bool.eq_false_or_eq_true al with U | U
 rw [if_pos U] at hm
 refine Tr 74 rfl (v' := .bool true) (by rw [U] <;> rfl)<|M rfl rfl<|No 75 rfl rfl rfl rfl rfl<|No 75 rfl rfl rfl rfl rfl<|No 75 rfl rfl rfl rfl rfl<|Ts rfl (pT rfl rfl)<|Tn ?_
 obtain rfl := o1 hm
 refine Xp 2 rfl<|Xp 2 rfl<|Xp 2 rfl ?_
 exact xJ ⟨rfl, rfl, lr⟩ (.refl _)
 rw [if_neg (fun hh => Bool.noConfusion (hh.symm.trans U))] at hm
 refine Tr 74 rfl (v' := .bool false) (by rw [U] <;> rfl)<|M rfl rfl<|Ys 75 rfl rfl rfl<|M rfl rfl<|Ys 75 rfl rfl rfl<|Ts rfl (sD (vs := [_, _]) 2 2 rfl agg79 rfl rfl rfl)<|Ys 75 rfl rfl rfl ?_
 obtain ⟨x1241, h1243, hm⟩ := bS hm
 have hx1242 := Option.some.inj h1243
 obtain ⟨v1238, Z, hr1240⟩ := OM.lookF kok79 (z0 := false) (V.le (e.trans (E.trans T))) (key := .agg #[iv a.B, iv a.EndB]) (k := (⟨a.B, a.EndB⟩ : LineEnd)) ⟨[iv a.B, iv a.EndB], rfl, ⟨[iv a.B], _, rfl, rfl, rfl⟩⟩ mapt77 zero4 rfl
 rw [hx1242] at Z
 obtain rfl : v1238 = bv x1241 := by have Z : [v1238] = [bv x1241] := Z; injection Z
 refine Ts rfl (st_mlook (ok := false) rfl rfl (fun w ho => hr1240 _ w ho (.cons _ (.cons _ (.cons _ (List.sublist_append_left _ _)))) false))<|Ts rfl (pF rfl rfl)<|Tn ?_
 obtain rfl := o1 hm
 refine Xp 2 rfl<|Xp 2 rfl<|Xp 2 rfl ?_
 exact xJ ⟨rfl, rfl, lr⟩ (.refl _)
 rintro b1227 _ _ ⟨rfl, rfl, am⟩
 have hm := hk1230
 refine Cc _ rfl (fun an => ?_) (fun an => ?_)
 rw [if_pos an] at hm
 refine Cr<|As rfl rfl<|Te<|Ct<|Xr<|Xb<|Xr<|Xr<|Xb<|Xr ?_
 have hq1245 := L _ (Option.some.inj hm).symm
 rw [hq1245] at q
 have hm := elimR q
 obtain rfl := o1 hm
 exact rM (rs := [.tmp 2]) (vs := [iv 6]) ⟨rfl, trivial⟩ ⟨rfl, rfl⟩ (.cons _ (.cons _ (.cons _ (ss f (.refl _))))) (d.trans (e.trans (E.trans (T.trans am))))
 rw [if_neg (fun hh => Bool.noConfusion (hh.symm.trans an))] at hm
 refine Ck<|Xn<|Di mixed (.cons_cons _ (.cons_cons _ (.cons_cons _ (ss f (.refl _)))))<|E0 0 rfl (sM rfl)<|Es 1 rfl (sD (vs := [_, _]) 1 2 rfl agg79 rfl rfl rfl)<|E0 2 rfl (sM rfl)<|Es 3 rfl (sD (vs := [_, _]) 2 2 rfl agg79 rfl rfl rfl)<|Eo<|Da [4] (by kernel_rfl) rfl ?_
 refine Rd2 lr rfl rfl (u_mputF (k := (⟨a.A, a.EndA⟩ : LineEnd)) kok79 [_, _, _] [] R rfl (V.le (e.trans (E.trans (T.trans am)))) mapt77 rfl rfl rfl (⟨[iv a.A, iv a.EndA], rfl, ⟨[iv a.A], _, rfl, rfl, rfl⟩⟩) ⟨rfl, rfl⟩ _ (.inl rfl)) ?_ ?_
 rintro _ _ ⟨hs1252, rfl, hsub1253, h1254⟩
 refine ⟨.inr (.cons_cons _ (.cons_cons _ (.cons_cons _ (ss hs1252 (.refl _))))), ?_⟩
 refine Da [5] (by kernel_rfl) rfl ?_
 refine Rd2 lr rfl rfl (u_mputF (k := (⟨a.B, a.EndB⟩ : LineEnd)) kok79 [_, _, _] [] R rfl h1254 mapt77 rfl rfl rfl (⟨[iv a.B, iv a.EndB], rfl, ⟨[iv a.B], _, rfl, rfl, rfl⟩⟩) ⟨rfl, rfl⟩ _ (.inl rfl)) ?_ ?_
 rintro _ _ ⟨hs1255, rfl, hsub1256, h1257⟩
 refine ⟨.inl (by kernel_rfl), ?_⟩
 refine Dd (by kernel_rfl)<|Xm<|Xn<|Cg<|Ts rfl (sa rfl rfl (by omega))<|M rfl rfl<|Tn ?_
 exact xM hm ⟨hs1255, rfl, rfl, ((d.trans (e.trans (E.trans (T.trans am))))), h1257⟩ (.cons_cons _ (.cons _ (.cons _ (.refl _))))
 exact Rn
 exact Rn
 rintro aa K _ _ ⟨f, rfl, rfl, d, V⟩ hq1259
 rw [hq1259] at q
 have hm := elimL q
 refine Cr<|Ts rfl (lF rfl rfl (by omega))<|Te<|Cs<|c_cond_f rfl<|Ce<|Xe<|Xe<|Xo<|Xn ?_
 refine Cr<|As rfl rfl<|Te<|Ct ?_
 obtain rfl := o1 hm
 exact rM (rs := [.tmp 2]) (vs := [iv 0]) ⟨rfl, trivial⟩ ⟨rfl, rfl⟩ (.cons _ (ss f (.refl _))) d

set_option maxRecDepth 20000 in
theorem cLineJoined (b : Base) (R : Hp) (c : ApiNet) (d : LineEnd) (x : OA) (y : Nat) (z : OA) (A : Nat) (i : OA) (k : Nat) (B : OA) (C : Nat) (D : OA) (E : Nat) (h4 : FZ RT.str b.w x y c.Stations) (h7 : FZ rApiSection b.w z A c.Sections) (F : FZ rApiLink b.w i k c.Links) (h13 : FZ rApiSignal b.w B C c.Signals) (h16 : FZ rApiGate b.w D E c.Gates) (G : Int) (H : Int) (I : Bool) (hm : mLineJoined c d = some (G, H, I)) :
    CallsG Tryd.prog 33 [.agg #[sv x c.Stations y, sv z c.Sections A, sv i c.Links k, sv B c.Signals C, sv D c.Gates E], .agg #[iv d.section_, iv d.end_]] b (R) (fun v b' hp' => .tuple #[.agg #[iv G, iv H], bv I] = v ∧ R = hp') := by
 refine fE 53 Tryd.func33 rfl Tryd.ntmps33 rfl ?_
 unfold mLineJoined at hm
 refine Cr<|Do rfl (uB _ rfl rfl) ?_
 rintro _ _ ⟨g85, rfl, rfl⟩
 refine Do rfl (uB _ rfl rfl) ?_
 rintro _ _ ⟨e, rfl, rfl⟩
 refine Do rfl (uA [iv 0, iv 0] zero79 rfl) ?_
 rintro _ _ ⟨f, rfl, rfl⟩
 refine As rfl rfl<|Te<|Cs<|Cr<|Ts rfl (sF rfl fld28_2)<|Ts rfl (sL 2 rfl one24 rfl rfl)<|Ts rfl (sE rfl sl24)<|M rfl rfl<|Te<|Cb ?_
 have hb89 : c.Links.length ≤ 9223372036854775807 := (FZ.bd F)
 refine Cp 1 rfl ?_
 obtain ⟨t118, T, g⟩ := bS hm
 refine cF (fun l => fun _ => fun m e' hp' => [(3, pb e), (4, pb f), (9, sv i c.Links k), (10, iv ((c.Links.length : Int))), (11, iv ((l : Int)))] = e' ∧ (e, Cl 79 [iv d.section_, iv d.end_]) :: (f, Cl 79 [iv 0, iv 0]) :: R = hp' ∧ b.Le m) T ⟨rfl, rfl, lr⟩ (.cons_cons _ (.cons_cons _ (.cons _ (.refl _)))) ?_ ?_
 rintro l _ m _ _ oL88 hknL88 ⟨rfl, rfl, h⟩ J K
 unfold mLineJoined_L88 at J
 have hm := J
 refine Cr<|Ts rfl (lT rfl rfl (by omega))<|Te<|Cs<|c_cond_t rfl<|Ck<|Xn<|Cs<|Cb<|Cr ?_
 obtain ⟨a, U, hm⟩ := bS hm
 obtain ⟨V, W, X⟩ := iS U
 obtain ⟨cs126, Y, Z, L, aa⟩ := FZ.get (sz := 4) rfl (by decide) (F.le h) X
 obtain ⟨_, _, rfl, rfl, ⟨_, _, rfl, rfl, ⟨_, _, rfl, rfl, rfl⟩⟩⟩ := Y
 refine Ts rfl (sI V rfl rfl W aa L sl24)<|Ts rfl (sP (vs := [iv a.A, iv a.EndA, iv a.B, iv a.EndB]) 4 rfl agg42 L rfl (fun j u hu => Z j u hu))<|Do rfl (uA [iv 0, iv 0, iv 0, iv 0] zero42 rfl) ?_
 rintro _ _ ⟨n, rfl, rfl⟩
 refine Do rfl (uN (vs := [_, _, _, _]) 0 4 rfl rfl rfl siz42 rfl (mc rfl (mc rfl (mc rfl (mc rfl mn)))) rfl (by simp)) ?_
 rintro _ _ rfl
 refine Te<|Cb ?_
 obtain ⟨ab, ac, ad⟩ := bS hm
 refine Cj (fun o e' hp' => [(3, pb e), (4, pb f), (7, pb n), (9, sv i c.Links k), (10, iv ((c.Links.length : Int))), (11, iv ((l : Int))), (15, bv ab)] = e' ∧ (e, Cl 79 [iv d.section_, iv d.end_]) :: (f, Cl 79 [iv 0, iv 0]) :: (n, Cl 42 [iv a.A, iv a.EndA, iv a.B, iv a.EndB]) :: R = hp' ∧ m.Le o) ?_ ?_
 have hm := ac
 refine Cg<|Ts rfl (sF rfl fld42_0)<|Ts rfl (sL 0 rfl one3 rfl rfl)<|Ts rfl (sF rfl fld79_0)<|Ts rfl (sL 1 rfl one3 rfl rfl) ?_
 refine Tb rfl (q1 rfl rfl) (fun p => ?_) (fun p => ?_)
 rw [if_pos p] at hm
 refine M rfl rfl<|Ys 21 rfl rfl rfl<|Ts rfl (sF rfl fld42_1)<|Ys 21 rfl rfl rfl<|Ts rfl (sL 0 rfl one3 rfl rfl)<|Ys 21 rfl rfl rfl<|Ts rfl (sF rfl fld79_1)<|Ys 21 rfl rfl rfl<|Ts rfl (sL 1 rfl one3 rfl rfl)<|Ys 21 rfl rfl rfl ?_
 refine Ts rfl (q1 rfl rfl)<|Ts rfl (pT rfl rfl)<|As rfl rfl<|Tn ?_
 obtain rfl := o1 hm
 refine Xp 2 rfl<|Xp 2 rfl ?_
 exact xJ ⟨rfl, rfl, lr⟩ (.refl _)
 rw [if_neg p] at hm
 refine M rfl rfl<|No 21 rfl rfl rfl rfl rfl<|No 21 rfl rfl rfl rfl rfl<|No 21 rfl rfl rfl rfl rfl<|No 21 rfl rfl rfl rfl rfl<|No 21 rfl rfl rfl rfl rfl<|Ts rfl (pF rfl rfl)<|As rfl rfl<|Tn ?_
 obtain rfl := o1 hm
 refine Xp 2 rfl<|Xp 2 rfl ?_
 exact xJ ⟨rfl, rfl, lr⟩ (.refl _)
 rintro o _ _ ⟨rfl, rfl, q⟩
 have hm := ad
 refine Cc _ rfl (fun r => ?_) (fun r => ?_)
 rw [if_pos r] at hm
 refine Cr<|Ts rfl (sF rfl fld42_2)<|Ts rfl (sL 2 rfl one3 rfl rfl)<|Ts rfl (sF rfl fld42_3)<|Ts rfl (sL 2 rfl one3 rfl rfl)<|Ts rfl (sB (v := .agg #[iv a.B, iv a.EndB]) [(0, iv a.B), (1, iv a.EndB)] rfl (fun _ => by kernel_rfl))<|Do rfl (uN (vs := [_, _]) 1 2 rfl rfl rfl siz79 rfl (mc rfl (mc rfl mn)) rfl (by simp)) ?_
 rintro _ _ rfl
 refine As rfl rfl<|Te<|Ct<|Xb<|Xb<|Xr<|Xr<|Xb<|Xr ?_
 have ae := K _ (Option.some.inj hm).symm
 rw [ae] at g
 have hm := elimR g
 obtain ⟨rfl, rfl, rfl⟩ := some3 hm
 exact rM (rs := [.cell 4 79, .tmp 5]) (vs := [.agg #[iv a.B, iv a.EndB], bv true]) ⟨⟨_, rfl, fun w ho => cell_agg (vs := [_, _]) 1 2 agg79 rfl rfl rfl w ho⟩, ⟨rfl, trivial⟩⟩ ⟨rfl, rfl⟩ (.cons _ (.cons _ (.cons _ (.refl _)))) (h.trans q)
 rw [if_neg (fun hh => Bool.noConfusion (hh.symm.trans r))] at hm
 obtain ⟨af, ag, ah⟩ := bS hm
 refine Cj (fun O e' hp' => [(3, pb e), (4, pb f), (7, pb n), (9, sv i c.Links k), (10, iv ((c.Links.length : Int))), (11, iv ((l : Int))), (33, bv af)] = e' ∧ (e, Cl 79 [iv d.section_, iv d.end_]) :: (f, Cl 79 [iv 0, iv 0]) :: (n, Cl 42 [iv a.A, iv a.EndA, iv a.B, iv a.EndB]) :: R = hp' ∧ o.Le O) ?_ ?_
 have hm := ag
 refine Cg<|Ts rfl (sF rfl fld42_2)<|Ts rfl (sL 2 rfl one3 rfl rfl)<|Ts rfl (sF rfl fld79_0)<|Ts rfl (sL 0 rfl one3 rfl rfl) ?_
 refine Tb rfl (q1 rfl rfl) (fun s => ?_) (fun s => ?_)
 rw [if_pos s] at hm
 refine M rfl rfl<|Ys 39 rfl rfl rfl<|Ts rfl (sF rfl fld42_3)<|Ys 39 rfl rfl rfl<|Ts rfl (sL 2 rfl one3 rfl rfl)<|Ys 39 rfl rfl rfl<|Ts rfl (sF rfl fld79_1)<|Ys 39 rfl rfl rfl<|Ts rfl (sL 0 rfl one3 rfl rfl)<|Ys 39 rfl rfl rfl ?_
 refine Ts rfl (q1 rfl rfl)<|Ts rfl (pT rfl rfl)<|As rfl rfl<|Tn ?_
 obtain rfl := o1 hm
 refine Xp 2 rfl<|Xp 2 rfl<|Xp 2 rfl ?_
 exact xJ ⟨rfl, rfl, lr⟩ (.refl _)
 rw [if_neg s] at hm
 refine M rfl rfl<|No 39 rfl rfl rfl rfl rfl<|No 39 rfl rfl rfl rfl rfl<|No 39 rfl rfl rfl rfl rfl<|No 39 rfl rfl rfl rfl rfl<|No 39 rfl rfl rfl rfl rfl<|Ts rfl (pF rfl rfl)<|As rfl rfl<|Tn ?_
 obtain rfl := o1 hm
 refine Xp 2 rfl<|Xp 2 rfl<|Xp 2 rfl ?_
 exact xJ ⟨rfl, rfl, lr⟩ (.refl _)
 rintro O _ _ ⟨rfl, rfl, S⟩
 have hm := ah
 refine Cc _ rfl (fun t => ?_) (fun t => ?_)
 rw [if_pos t] at hm
 refine Cr<|Ts rfl (sF rfl fld42_0)<|Ts rfl (sL 2 rfl one3 rfl rfl)<|Ts rfl (sF rfl fld42_1)<|Ts rfl (sL 2 rfl one3 rfl rfl)<|Ts rfl (sB (v := .agg #[iv a.A, iv a.EndA]) [(0, iv a.A), (1, iv a.EndA)] rfl (fun _ => by kernel_rfl))<|Do rfl (uN (vs := [_, _]) 1 2 rfl rfl rfl siz79 rfl (mc rfl (mc rfl mn)) rfl (by simp)) ?_
 rintro _ _ rfl
 refine As rfl rfl<|Te<|Ct<|Xb<|Xb<|Xr<|Xr<|Xb<|Xr ?_
 have ai := K _ (Option.some.inj hm).symm
 rw [ai] at g
 have hm := elimR g
 obtain ⟨rfl, rfl, rfl⟩ := some3 hm
 exact rM (rs := [.cell 4 79, .tmp 5]) (vs := [.agg #[iv a.A, iv a.EndA], bv true]) ⟨⟨_, rfl, fun w ho => cell_agg (vs := [_, _]) 1 2 agg79 rfl rfl rfl w ho⟩, ⟨rfl, trivial⟩⟩ ⟨rfl, rfl⟩ (.cons _ (.cons _ (.cons _ (.refl _)))) (h.trans (q.trans S))
 rw [if_neg (fun hh => Bool.noConfusion (hh.symm.trans t))] at hm
 refine Ck<|Xm<|Xm<|Xn<|Cg<|Ts rfl (sa rfl rfl (by omega))<|M rfl rfl<|Tn<|Xp 1 rfl<|Xp 1 rfl ?_
 exact xM hm ⟨rfl, rfl, ((h.trans (q.trans S)))⟩ (.cons_cons _ (.cons_cons _ (.cons _ (.refl _))))
 rintro _ m _ _ ⟨rfl, rfl, h⟩ aj
 rw [aj] at g
 have hm := elimL g
 refine Cr<|Ts rfl (lF rfl rfl (by omega))<|Te<|Cs<|c_cond_f rfl<|Ce<|Xe<|Xe<|Xo<|Xn ?_
 refine Cr<|Ts rfl (sB (v := .agg #[iv 0, iv 0]) [] rfl (fun _ => by kernel_rfl))<|Do rfl (uN (vs := [_, _]) 1 2 rfl rfl rfl siz79 rfl (mc rfl (mc rfl mn)) rfl (by simp)) ?_
 rintro _ _ rfl
 refine As rfl rfl<|Te<|Ct ?_
 obtain ⟨rfl, rfl, rfl⟩ := some3 hm
 exact rM (rs := [.cell 4 79, .tmp 5]) (vs := [.agg #[iv 0, iv 0], bv false]) ⟨⟨_, rfl, fun w ho => cell_agg (vs := [_, _]) 1 2 agg79 rfl rfl rfl w ho⟩, ⟨rfl, trivial⟩⟩ ⟨rfl, rfl⟩ (.cons _ (.cons _ (.refl _))) h

end Go.Proofs.YtaagdbecijhkmaaDoor
