/- Contracts: the code computes its model (part 4). -/
import Derived.Test.YtnmhabgnfifkdaaZP3
set_option linter.unusedVariables false
set_option linter.unusedSimpArgs false
namespace Go.Proofs.Ytnmhabgnfifkdaa
open Go.RowKit Go.Fp

open Go.Fp renaming t_mv → M, t_as → As, t_st → Ts, t_do → Do, t_ne → Te, t_nil → Tn, t_no → No, t_yes → Ys, t_callG → Tg, t_callvG → Tv, t_resp → Tr, c_sr → Cr, c_seq → Cs, c_region → Cg, c_cond → Cc, c_block → Cb, c_ret → Ct, c_skip → Ck, c_exit → Ce, c_join → Cj, c_pullb → Cp, x_then_normal → Xn, x_then_ret → Xr, x_then_exit → Xe, x_block_ret → Xb, x_block_normal → Xm, x_block_out → Xo, x_pullb → Xp, x_front2 → X2, x_front3 → X3, x_front6 → X6, E_st → Es, E_s0 → E0, E_yes → Ey, E_y0 → Yz, E_no → En, E_in → Ei, E_il → El, E_out → Eo, D_all → Da, D_done → Dd, D_drawI → Di, R_do → Rd2, R_nil → Rn, R_callGl → Rg, st_load → sL, st_loadD → sD, st_nil → sN, st_len → sE, st_move → sM, st_pick_t → pT, st_pick_f → pF, st_index_old → sI, st_load_old → sO, st_field_old → sQ, st_add → sa, st_sub → sb, st_lss_t → lT, st_lss_f → lF, st_eql_t → eT, st_eql_f → eF, st_not → sn2, st_build → sB, u_alloc → uA, u_store → uS, u_callW0 → uW, u_putOS → uP, u_appOS → uQ, fn_enterG → fE, bindS → bS, some1 → o1, idx_some → iS, sub_skip → ss, sub_app → sp, chk_some → kS, notT → nt, notF → nf, mem_c → mc, mem_n → mn, st_eql → q1, st_lss → q3, st_leq → q4, st_geq → q6
set_option maxRecDepth 20000 in
theorem cSlicesXorshiftNext (b : Base) (R : Hp) (a : Int) (c : Nat) (g : Int) (h : Int) (hm : mSlicesXorshiftNext a = some (g, h)) :
    CallsG Try.prog 71 [pb c] b ((c, Cl 121 [.int .u64 (a)]) :: R) (fun v b' hp' => .int .u64 (g) = v ∧ (c, Cl 121 [.int .u64 (h)]) :: R = hp') := by
 refine fE 33 Try.func71 rfl Try.ntmps71 rfl ?_
 unfold mSlicesXorshiftNext at hm
 refine Cr<|As rfl rfl<|Te<|Cs ?_
 obtain ⟨_, d, hm⟩ := bS hm
 refine Di mixed (.refl _)<|E0 0 rfl (sM rfl)<|E0 1 rfl (sN rfl)<|Es 2 rfl (sL 0 rfl one121 rfl rfl)<|E0 3 rfl (sM rfl)<|E0 4 rfl (sN rfl)<|Es 5 rfl (sL 0 rfl one121 rfl rfl) ?_
 have d := shN_some d
 refine E0 6 rfl (st_shl rfl rfl d)<|E0 7 rfl (st_xor rfl rfl)<|E0 8 rfl (sN rfl)<|Eo<|Da [9] (by kernel_rfl) rfl ?_
 refine Rd2 lr rfl rfl (uS 0 rfl rfl siz121 rfl rfl (by simp)) ?_ ?_
 rintro _ _ rfl
 refine ⟨.inl (by kernel_rfl), ?_⟩
 refine Dd (by kernel_rfl)<|Xn<|Cs ?_
 obtain ⟨_, e, hm⟩ := bS hm
 refine Di mixed (.refl _)<|E0 0 rfl (sM rfl)<|E0 1 rfl (sN rfl)<|Es 2 rfl (sL 0 rfl one121 rfl rfl)<|E0 3 rfl (sM rfl)<|E0 4 rfl (sN rfl)<|Es 5 rfl (sL 0 rfl one121 rfl rfl) ?_
 have e := shN_some e
 refine E0 6 rfl (st_shr rfl rfl e)<|E0 7 rfl (st_xor rfl rfl)<|E0 8 rfl (sN rfl)<|Eo<|Da [9] (by kernel_rfl) rfl ?_
 refine Rd2 lr rfl rfl (uS 0 rfl rfl siz121 rfl rfl (by simp)) ?_ ?_
 rintro _ _ rfl
 refine ⟨.inl (by kernel_rfl), ?_⟩
 refine Dd (by kernel_rfl)<|Xn<|Cs ?_
 obtain ⟨_, f, hm⟩ := bS hm
 refine Di mixed (.refl _)<|E0 0 rfl (sM rfl)<|E0 1 rfl (sN rfl)<|Es 2 rfl (sL 0 rfl one121 rfl rfl)<|E0 3 rfl (sM rfl)<|E0 4 rfl (sN rfl)<|Es 5 rfl (sL 0 rfl one121 rfl rfl) ?_
 have f := shN_some f
 refine E0 6 rfl (st_shl rfl rfl f)<|E0 7 rfl (st_xor rfl rfl)<|E0 8 rfl (sN rfl)<|Eo<|Da [9] (by kernel_rfl) rfl ?_
 refine Rd2 lr rfl rfl (uS 0 rfl rfl siz121 rfl rfl (by simp)) ?_ ?_
 rintro _ _ rfl
 refine ⟨.inl (by kernel_rfl), ?_⟩
 refine Dd (by kernel_rfl)<|Xn<|Cr<|M rfl rfl<|Ts rfl (sN rfl)<|Ts rfl (sL 0 rfl one121 rfl rfl)<|As rfl rfl<|Te<|Ct ?_
 obtain ⟨rfl, rfl⟩ := some2 hm
 exact rM (rs := [.tmp 2]) (vs := [.int .u64 (xorI .u64 (xorI .u64 (xorI .u64 a (shlI .u64 a 13)) (shrI .u64 (xorI .u64 a (shlI .u64 a 13)) 7)) (shlI .u64 (xorI .u64 (xorI .u64 a (shlI .u64 a 13)) (shrI .u64 (xorI .u64 a (shlI .u64 a 13)) 7)) 17))]) ⟨rfl, trivial⟩ ⟨rfl, rfl⟩ (.refl _) lr
 exact Rn
 exact Rn
 exact Rn

set_option maxRecDepth 20000 in
theorem cSlicesBreakPatternsOrdered (b : Base) (R : Hp) (e : Int) (i : Int) (f : (List Int)) (a : OA) (c : Nat) (p : Hp) (S : OS 3 (OT.fr rI) b.w (sv a f c) f p) (q : (List Int)) (hm : mSlicesBreakPatternsOrdered e i f = some q) :
    CallsG Try.prog 58 [sv a f c, iv e, iv i] b ((p ++ R)) (fun v b' hp' => ∃ (T : Hp), .tuple #[] = v ∧ (T ++ R) = hp' ∧ OS 3 (OT.fr rI) b'.w (sv a q c) q T ∧ q.length = f.length) := by
 refine fE 65 Try.func58 rfl Try.ntmps58 rfl ?_
 unfold mSlicesBreakPatternsOrdered at hm
 refine Cr<|M rfl rfl<|M rfl rfl ?_
 obtain ⟨_, r, hm⟩ := bS hm
 have r := (kS r).2
 refine Ts rfl (sb rfl rfl r)<|As rfl rfl<|Te<|Cr<|M rfl rfl<|Ts rfl (q6 rfl rfl)<|Te ?_
 refine Cc _ rfl (fun s => ?_) (fun s => ?_)
 rw [if_pos (of_decide_eq_true s)] at hm
 refine Cr<|M rfl rfl<|Ts rfl (st_conv rfl int3_i64 int121_u64)<|Do rfl (uA [.int .u64 0] zero121 rfl) ?_
 rintro _ _ ⟨j, rfl, rfl⟩
 refine Do rfl (uS 0 rfl rfl siz121 rfl rfl (by simp)) ?_
 rintro _ _ rfl
 refine Te<|Cr<|M rfl rfl ?_
 obtain ⟨t, af, hm⟩ := bS hm
 refine Do rfl (uW _ call70 rfl (fun w ho => cSlicesNextPowerOfTwo _ [] (i - e) t af) (fun _ _ _ h => h.2.symm)) ?_
 rintro _ _ ⟨⟨_, rfl, _⟩, rfl⟩
 refine As rfl rfl<|Te<|Cr<|M rfl rfl<|M rfl rfl ?_
 obtain ⟨_, ag, hm⟩ := bS hm
 obtain ⟨_, u, hm⟩ := bS hm
 have u := (kS u).2
 refine Ts rfl (st_quo rfl rfl (ne0_some ag) u) ?_
 obtain ⟨_, x, hm⟩ := bS hm
 have x := (kS x).2
 refine Ts rfl (st_mul rfl rfl x) ?_
 obtain ⟨_, y, hm⟩ := bS hm
 have y := (kS y).2
 refine Ts rfl (sa rfl rfl y) ?_
 obtain ⟨_, z, hm⟩ := bS hm
 have z := (kS z).2
 refine Ts rfl (sb rfl rfl z)<|As rfl rfl<|Te<|Cb<|cL (unc3 fun g A d => fun B e' hp' => ∃ (k : Hp), [(0, sv a d c), (1, iv e), (6, iv (i - e)), (7, pb j), (8, .int .u64 (t)), (9, iv g)] = e' ∧ (j, Cl 121 [.int .u64 (A)]) :: (k ++ R) = hp' ∧ b.Le B ∧ OS 3 (OT.fr rI) B.w (sv a d c) d k ∧ d.length = f.length) hm ⟨p, rfl, rfl, lr, S, rfl⟩ (.refl _) ?_
 rintro ⟨g, A, d⟩ B _ _ aT ⟨k, rfl, rfl, U, l, V⟩ W ah
 unfold mSlicesBreakPatternsOrdered_L531 at W
 have hm := (unc3E W)
 refine Cs<|Cr<|M rfl rfl<|M rfl rfl<|M rfl rfl ?_
 obtain ⟨_, ai, hm⟩ := bS hm
 obtain ⟨_, C, hm⟩ := bS hm
 have C := (kS C).2
 refine Ts rfl (st_quo rfl rfl (ne0_some ai) C) ?_
 obtain ⟨_, D, hm⟩ := bS hm
 have D := (kS D).2
 refine Ts rfl (st_mul rfl rfl D) ?_
 obtain ⟨_, E, hm⟩ := bS hm
 have E := (kS E).2
 refine Ts rfl (sa rfl rfl E) ?_
 obtain ⟨_, F, hm⟩ := bS hm
 have F := (kS F).2
 refine Ts rfl (sa rfl rfl F)<|Ts rfl (q4 rfl rfl)<|Te ?_
 refine Cc _ rfl (fun G => ?_) (fun G => ?_)
 rw [if_pos (of_decide_eq_true G)] at hm
 refine Ck<|Xn<|Cs<|Cb<|Cr ?_
 obtain ⟨⟨aj, X⟩, ak, hm⟩ := bS hm
 have hm := (unc2E hm)
 refine Tg _ rfl call71 rfl (cSlicesXorshiftNext _ _ A j aj X ak) ?_
 rintro _ al _ m ⟨rfl, rfl⟩
 refine M rfl rfl<|Ts rfl (st_sub_w rfl rfl)<|Ts rfl (st_and rfl rfl)<|Ts rfl (st_conv rfl int79_u64 int3_i64)<|As rfl rfl<|Te ?_
 obtain ⟨Y, am, an⟩ := bS hm
 refine Cj (fun Z e' hp' => [(0, sv a d c), (1, iv e), (6, iv (i - e)), (7, pb j), (8, .int .u64 (t)), (9, iv g), (10, iv Y)] = e' ∧ (j, Cl 121 [.int .u64 (X)]) :: (k ++ R) = hp' ∧ al.Le Z) ?_ ?_
 have hm := am
 refine Cr<|M rfl rfl<|M rfl rfl<|Ts rfl (q6 rfl rfl)<|Te ?_
 refine Cc _ rfl (fun H => ?_) (fun H => ?_)
 rw [if_pos (of_decide_eq_true H)] at hm
 refine Cg<|M rfl rfl<|M rfl rfl ?_
 obtain ⟨_, I, hm⟩ := bS hm
 have I := (kS I).2
 refine Ts rfl (sb rfl rfl I)<|As rfl rfl<|Tn ?_
 obtain rfl := o1 hm
 exact xJ ⟨rfl, rfl, lr⟩ (.refl _)
 rw [if_neg (of_decide_eq_false H)] at hm
 refine Ck ?_
 obtain rfl := o1 hm
 exact xJ ⟨rfl, rfl, lr⟩ (.refl _)
 rintro Z _ _ ⟨rfl, rfl, n⟩
 have hm := an
 obtain ⟨_, J, hm⟩ := bS hm
 obtain ⟨_, K, hm⟩ := bS hm
 obtain ⟨o, ao, hm⟩ := bS hm
 obtain ⟨L, aq, hm⟩ := bS hm
 obtain ⟨aU, ar, hm⟩ := bS hm
 obtain ⟨aV, au, hm⟩ := bS hm
 refine Di mixed (.refl _)<|E0 0 rfl (sM rfl)<|E0 1 rfl (sM rfl)<|E0 2 rfl (sM rfl)<|E0 3 rfl (sM rfl)<|E0 4 rfl (sM rfl) ?_
 have J := (kS J).2
 refine E0 5 rfl (sa rfl rfl J)<|E0 6 rfl (sM rfl)<|E0 7 rfl (sM rfl)<|E0 8 rfl (sM rfl) ?_
 have K := (kS K).2
 refine E0 9 rfl (sa rfl rfl K) ?_
 obtain ⟨av, aw, ax⟩ := iS ao
 obtain ⟨aW, aX, aY, aZ, a0, ay, az, aA, aB, a1, a2⟩ := OS.get (sz := 1) rfl (by decide) (l.le (m.trans n)) ax
 obtain ⟨rfl, rfl⟩ := ay
 refine E0 10 rfl (sI av rfl rfl aw aB aA sl42)<|Es 11 rfl (st_load_rd rfl one3 (fun w ho => az w _ ho (.cons _ (List.sublist_append_left _ _)) 0 _ rfl))<|E0 12 rfl (sM rfl)<|E0 13 rfl (sM rfl) ?_
 obtain ⟨aC, aD, aE⟩ := iS aq
 obtain ⟨a3, a4, a5, a6, a7, aF, aG, aH, aI, a8, a9⟩ := OS.get (sz := 1) rfl (by decide) (l.le (m.trans n)) aE
 obtain ⟨rfl, rfl⟩ := aF
 refine E0 14 rfl (sI aC rfl rfl aD aI aH sl42)<|Es 15 rfl (st_load_rd rfl one3 (fun w ho => aG w _ ho (.cons _ (List.sublist_append_left _ _)) 0 _ rfl)) ?_
 obtain ⟨aJ, aa, ab⟩ := iS ar
 obtain ⟨ba, bb, bc, bd, be, aK, bf, aL, aM, bg, bh⟩ := OS.get (sz := 1) rfl (by decide) (l.le (m.trans n)) ab
 obtain ⟨rfl, rfl⟩ := aK
 refine E0 16 rfl (sI aJ rfl rfl aa aM aL sl42)<|Eo<|Da [17] (by kernel_rfl) rfl ?_
 refine Rd2 lr rfl rfl (uP aa (sz := 1) (a' := o) rfl [_] R 0 1 [iv o] rfl (l.le (m.trans n)) ab rfl rfl rfl siz3 rfl (mc rfl mn) (fun cs hsj hh => by obtain ⟨rfl, rfl⟩ := hh; exact ⟨by first | decide | exact Nat.le_refl _, rfl, rfl⟩)) ?_ ?_
 rintro _ _ ⟨bi, rfl, ac⟩
 refine ⟨.inl (by kernel_rfl), ?_⟩
 refine d_resp 0 rfl (v' := .slice a (put d g o).length c) (by simp only [put_length])<|d_resp 49 rfl (v' := .slice a (put d g o).length c) (by simp only [put_length]) ?_
 obtain ⟨aN, ad, ae⟩ := iS au
 obtain ⟨bj, bk, bl, bm, bn, aO, bo, aP, aQ, bp, bq⟩ := OS.get (sz := 1) rfl (by decide) ac ae
 obtain ⟨rfl, rfl⟩ := aO
 refine El lr<|E0 18 rfl (sI aN rfl rfl ad aQ aP sl42)<|Eo<|Da [19] (by kernel_rfl) rfl ?_
 refine Rd2 lr rfl rfl (uP ad (sz := 1) (a' := L) rfl [_] R 0 1 [iv L] rfl ac ae rfl rfl rfl siz3 rfl (mc rfl mn) (fun cs hsj hh => by obtain ⟨rfl, rfl⟩ := hh; exact ⟨by first | decide | exact Nat.le_refl _, rfl, rfl⟩)) ?_ ?_
 rintro _ _ ⟨aR, rfl, aS⟩
 refine ⟨.inl (by kernel_rfl), ?_⟩
 refine d_resp 0 rfl (v' := .slice a (put (put d g o) (e + Y) L).length c) (by simp only [put_length])<|Dd (by kernel_rfl)<|Xm<|Xn<|Cg<|M rfl rfl ?_
 obtain ⟨_, O, hm⟩ := bS hm
 have O := (kS O).2
 refine Ts rfl (sa rfl rfl O)<|As rfl rfl<|Tn ?_
 exact xM hm ⟨aR, rfl, rfl, ((U.trans (m.trans n))), aS, ((put_length _ _ _).trans ((put_length _ _ _).trans V))⟩ (.refl _)
 exact Rn
 exact Rn
 rw [if_neg (of_decide_eq_false G)] at hm
 refine Ce<|Xe<|Xe<|Xo ?_
 have hm := congrArg some (ah _ (Option.some.inj hm).symm)
 obtain rfl := o1 hm
 exact endM U rfl (.cons _ (.refl _)) ⟨k, rfl, rfl, l, V⟩
 rw [if_neg (of_decide_eq_false s)] at hm
 refine Ck ?_
 obtain rfl := o1 hm
 exact endM lr rfl (.refl _) ⟨p, rfl, rfl, S, rfl⟩

set_option maxRecDepth 20000 in
theorem cSlicesPdqsortOrdered : ∀ (N : Nat) (b : Base) (R : Hp) (G : Int) (H : Int) (I : Int) (f : (List Int)) (a : OA) (c : Nat) (z : Hp) (Z : OS 3 (OT.fr rI) b.w (sv a f c) f z) (u : (List Int)) (hm : mSlicesPdqsortOrdered N G H I f = some u),
    CallsG Try.prog 46 [sv a f c, iv G, iv H, iv I] b ((z ++ R)) (fun v b' hp' => ∃ (aG : Hp), .tuple #[] = v ∧ (aG ++ R) = hp' ∧ OS 3 (OT.fr rI) b'.w (sv a u c) u aG ∧ u.length = f.length) := by
  intro N
  induction N with
  | zero =>
    intro b R G H I f a c z Z u hm
    unfold mSlicesPdqsortOrdered at hm
    cases hm
  | succ N ih =>
   intro b R G H I f a c z Z u hm
   refine fE 134 Try.func46 rfl Try.ntmps46 rfl ?_
   unfold mSlicesPdqsortOrdered at hm
   refine Cr<|As rfl rfl<|Te<|Cr<|As rfl rfl<|Te<|Cb<|cL (unc6 fun d e aH j k m => fun J e' hp' => ∃ (g : Hp), [(0, sv a m c), (1, iv d), (2, iv e), (3, iv aH), (8, bv j), (9, bv k)] = e' ∧ (g ++ R) = hp' ∧ b.Le J ∧ OS 3 (OT.fr rI) J.w (sv a m c) m g ∧ m.length = f.length) hm ⟨z, rfl, rfl, lr, Z, rfl⟩ (.refl _) ?_
   rintro ⟨d, e, aH, j, k, m⟩ J _ _ ci ⟨g, rfl, rfl, x, K, L⟩ aI aa
   unfold mSlicesPdqsortOrdered_L2079 at aI
   have hm := (unc6E aI)
   refine Cb<|Cr<|M rfl rfl<|M rfl rfl ?_
   obtain ⟨_, ab, hm⟩ := bS hm
   have ab := (kS ab).2
   refine Ts rfl (sb rfl rfl ab)<|As rfl rfl<|Te<|Cs<|Cr<|M rfl rfl<|Ts rfl (q4 rfl rfl)<|Te ?_
   refine Cc _ rfl (fun ac => ?_) (fun ac => ?_)
   rw [if_pos (of_decide_eq_true ac)] at hm
   refine Cr<|M rfl rfl<|M rfl rfl<|M rfl rfl ?_
   obtain ⟨a8, a9, hm⟩ := bS hm
   refine t_out1 [] [] g R rfl<|Tg _ rfl call56 rfl (cSlicesInsertionSortOrdered _ _ d e m a c g K a8 a9) ?_
   rintro _ cj _ ba ⟨aJ, rfl, rfl, bb, bc⟩
   refine t_in1 [] [] aJ R rfl<|Te<|Ct<|Xr<|Xb<|Xr<|Xb ?_
   have hm := congrArg some (aa _ (Option.some.inj hm).symm)
   obtain rfl := o1 hm
   exact rM (rs := []) (vs := []) trivial ⟨aJ, rfl, rfl, bb, (bc.trans L)⟩ (.refl _) (x.trans ba)
   rw [if_neg (of_decide_eq_false ac)] at hm
   refine Ck<|Xn<|Cs<|Cr<|M rfl rfl<|Ts rfl (q1 rfl rfl)<|Te ?_
   refine Cc _ rfl (fun ad => ?_) (fun ad => ?_)
   rw [if_pos (of_decide_eq_true ad)] at hm
   refine Cr<|M rfl rfl<|M rfl rfl<|M rfl rfl ?_
   obtain ⟨bd, be, hm⟩ := bS hm
   refine t_out1 [] [] g R rfl<|Tg _ rfl call57 rfl (cSlicesHeapSortOrdered _ _ d e m a c g K bd be) ?_
   rintro _ ck _ bf ⟨aK, rfl, rfl, bg, bh⟩
   refine t_in1 [] [] aK R rfl<|Te<|Ct<|Xr<|Xb<|Xr<|Xb ?_
   have hm := congrArg some (aa _ (Option.some.inj hm).symm)
   obtain rfl := o1 hm
   exact rM (rs := []) (vs := []) trivial ⟨aK, rfl, rfl, bg, (bh.trans L)⟩ (.refl _) (x.trans bf)
   rw [if_neg (of_decide_eq_false ad)] at hm
   refine Ck<|Xn ?_
   obtain ⟨⟨p, q⟩, bi, bj⟩ := bS hm
   refine Cj (fun O e' hp' => ∃ (r : Hp), [(0, sv a q c), (1, iv d), (2, iv e), (3, iv p), (8, bv j), (9, bv k), (10, iv (e - d))] = e' ∧ (r ++ R) = hp' ∧ J.Le O ∧ OS 3 (OT.fr rI) O.w (sv a q c) q r ∧ q.length = f.length) ?_ ?_
   have hm := bi
   refine Cr<|M rfl rfl<|Ts rfl (sn2 rfl)<|Te ?_
   refine Cc _ rfl (fun ae => ?_) (fun ae => ?_)
   rw [if_neg (fun hh => Bool.noConfusion (hh.symm.trans (nt ae)))] at hm
   refine Cr<|M rfl rfl<|M rfl rfl<|M rfl rfl ?_
   obtain ⟨aL, bk, hm⟩ := bS hm
   refine t_out1 [] [] g R rfl<|Tg _ rfl call58 rfl (cSlicesBreakPatternsOrdered _ _ d e m a c g K aL bk) ?_
   rintro _ cl _ bl ⟨aM, rfl, rfl, bm, aN⟩
   refine t_in1 [] [] aM R rfl<|Tr 0 rfl (v' := sv a aL c) (by show Value.slice _ _ _ = Value.slice _ _ _; rw [aN])<|Te<|Cg<|M rfl rfl ?_
   obtain ⟨_, af, hm⟩ := bS hm
   have af := (kS af).2
   refine Ts rfl (sb rfl rfl af)<|As rfl rfl<|Tn ?_
   obtain ⟨rfl, rfl⟩ := some2 hm
   exact xJ ⟨aM, rfl, rfl, bl, bm, (aN.trans L)⟩ (.refl _)
   rw [if_pos (nf ae)] at hm
   refine Ck ?_
   obtain ⟨rfl, rfl⟩ := some2 hm
   exact xJ ⟨g, rfl, rfl, lr, K, L⟩ (.refl _)
   rintro O _ _ ⟨r, rfl, rfl, S, ag, aO⟩
   have hm := (unc2E bj)
   refine Cr<|M rfl rfl<|M rfl rfl<|M rfl rfl ?_
   obtain ⟨⟨bn, bo⟩, bp, hm⟩ := bS hm
   have hm := (unc2E hm)
   refine Do rfl (uW _ call59 rfl (fun w ho => cSlicesChoosePivotOrdered _ [] q d e a c (OS.now (o := (OT.fr rI)) (l := q) (hs := r) ag ho (List.sublist_append_left _ _)) bn bo bp) (fun _ _ _ h => h.2.symm)) ?_
   rintro _ _ ⟨⟨_, rfl, _⟩, rfl⟩
   refine M rfl rfl<|Ts rfl (st_extract rfl rfl)<|Ts rfl (st_extract rfl rfl)<|As rfl rfl<|As rfl rfl<|Te ?_
   obtain ⟨⟨y, bq, s⟩, br, bs⟩ := bS hm
   refine Cj (fun A e' hp' => ∃ (t : Hp), [(0, sv a s c), (1, iv d), (2, iv e), (3, iv p), (8, bv j), (9, bv k), (10, iv (e - d)), (11, iv y), (12, iv bq)] = e' ∧ (t ++ R) = hp' ∧ O.Le A ∧ OS 3 (OT.fr rI) A.w (sv a s c) s t ∧ s.length = f.length) ?_ ?_
   have hm := br
   refine Cr<|M rfl rfl<|Ts rfl (q1 rfl rfl)<|Te ?_
   refine Cc _ rfl (fun ah => ?_) (fun ah => ?_)
   rw [if_pos (of_decide_eq_true ah)] at hm
   refine Cr<|M rfl rfl<|M rfl rfl<|M rfl rfl ?_
   obtain ⟨aP, bt, hm⟩ := bS hm
   refine t_out1 [] [] r R rfl<|Tg _ rfl call60 rfl (cSlicesReverseRangeOrdered _ _ d e q a c r ag aP bt) ?_
   rintro _ cm _ bu ⟨aQ, rfl, rfl, bw, aR⟩
   refine t_in1 [] [] aQ R rfl<|Tr 0 rfl (v' := sv a aP c) (by show Value.slice _ _ _ = Value.slice _ _ _; rw [aR])<|Te<|Cr<|M rfl rfl ?_
   obtain ⟨_, ai, hm⟩ := bS hm
   have ai := (kS ai).2
   refine Ts rfl (sb rfl rfl ai)<|M rfl rfl<|M rfl rfl ?_
   obtain ⟨_, aj, hm⟩ := bS hm
   have aj := (kS aj).2
   refine Ts rfl (sb rfl rfl aj) ?_
   obtain ⟨_, ak, hm⟩ := bS hm
   have ak := (kS ak).2
   refine Ts rfl (sb rfl rfl ak)<|As rfl rfl<|Te<|Cg<|As rfl rfl<|Tn ?_
   obtain ⟨rfl, rfl, rfl⟩ := some3 hm
   exact xJ ⟨aQ, rfl, rfl, bu, bw, (aR.trans aO)⟩ (.refl _)
   rw [if_neg (of_decide_eq_false ah)] at hm
   refine Ck ?_
   obtain ⟨rfl, rfl, rfl⟩ := some3 hm
   exact xJ ⟨r, rfl, rfl, lr, ag, aO⟩ (.refl _)
   rintro A _ _ ⟨t, rfl, rfl, T, aS, al⟩
   have hm := (unc3E bs)
   obtain ⟨bx, bz, U⟩ := bS hm
   refine Cj (fun V e' hp' => ∃ (i : (List Int)), ∃ (n : Hp), [(0, sv a i c), (1, iv d), (2, iv e), (3, iv p), (8, bv j), (9, bv k), (10, iv (e - d)), (11, iv y)] = e' ∧ (n ++ R) = hp' ∧ A.Le V ∧ OS 3 (OT.fr rI) V.w (sv a i c) i n ∧ i.length = f.length ∧ bx = .inl i) ?_ ?_
   have hm := bz
   obtain ⟨bA, bB, bC⟩ := bS hm
   refine Cj (fun aT e' hp' => [(0, sv a s c), (1, iv d), (2, iv e), (3, iv p), (8, bv j), (9, bv k), (10, iv (e - d)), (11, iv y), (68, bv bA)] = e' ∧ (t ++ R) = hp' ∧ A.Le aT) ?_ ?_
   have hm := bB
   refine Cg<|M rfl rfl ?_
   rcases Bool.eq_false_or_eq_true j with B | B
   rw [if_pos B] at hm
   refine Tr 61 rfl (v' := .bool true) (by rw [B] <;> rfl)<|M rfl rfl<|Ys 62 rfl rfl rfl<|M rfl rfl ?_
   rcases Bool.eq_false_or_eq_true k with C | C
   rw [if_pos C] at hm
   refine Tr 63 rfl (v' := .bool true) (by rw [C] <;> rfl)<|Ts rfl (pT rfl rfl)<|M rfl rfl<|Ys 65 rfl rfl rfl<|M rfl rfl<|Ys 65 rfl rfl rfl<|Ts rfl (q1 rfl rfl)<|Ts rfl (pT rfl rfl)<|Tn ?_
   obtain rfl := o1 hm
   exact xJ ⟨rfl, rfl, lr⟩ (.refl _)
   rw [if_neg (fun hh => Bool.noConfusion (hh.symm.trans C))] at hm
   refine Tr 63 rfl (v' := .bool false) (by rw [C] <;> rfl)<|Ts rfl (pT rfl rfl)<|M rfl rfl<|No 65 rfl rfl rfl rfl rfl<|No 65 rfl rfl rfl rfl rfl<|Ts rfl (pF rfl rfl)<|Tn ?_
   obtain rfl := o1 hm
   exact xJ ⟨rfl, rfl, lr⟩ (.refl _)
   rw [if_neg (fun hh => Bool.noConfusion (hh.symm.trans B))] at hm
   refine Tr 61 rfl (v' := .bool false) (by rw [B] <;> rfl)<|M rfl rfl<|No 62 rfl rfl rfl rfl rfl<|Ts rfl (pF rfl rfl)<|M rfl rfl<|No 65 rfl rfl rfl rfl rfl<|No 65 rfl rfl rfl rfl rfl<|Ts rfl (pF rfl rfl)<|Tn ?_
   obtain rfl := o1 hm
   exact xJ ⟨rfl, rfl, lr⟩ (.refl _)
   rintro aT _ _ ⟨rfl, rfl, D⟩
   have hm := bC
   refine Cc _ rfl (fun am => ?_) (fun am => ?_)
   rw [if_pos am] at hm
   refine Cr<|M rfl rfl<|M rfl rfl<|M rfl rfl ?_
   obtain ⟨⟨bD, an⟩, bE, hm⟩ := bS hm
   have hm := (unc2E hm)
   refine t_out1 [] [] t R rfl<|Tg _ rfl call61 rfl (cSlicesPartialInsertionSortOrdered _ _ d e s a c t (aS.le D) bD an bE) ?_
   rintro _ cn _ aU ⟨ao, rfl, rfl, aV, aq⟩
   refine t_in1 [] [] ao R rfl<|Tr 0 rfl (v' := sv a an c) (by show Value.slice _ _ _ = Value.slice _ _ _; rw [aq])<|Te ?_
   refine Cc _ rfl (fun ar => ?_) (fun ar => ?_)
   rw [if_pos ar] at hm
   refine Ct<|Xr<|Xb<|Xr<|Xb ?_
   have bF := (Option.some.inj hm).symm
   rw [bF] at U
   have hm := elimR U
   have hm := congrArg some (aa _ (Option.some.inj hm).symm)
   obtain rfl := o1 hm
   exact rM (rs := []) (vs := []) trivial ⟨ao, rfl, rfl, aV, (aq.trans al)⟩ (.refl _) (x.trans (S.trans (T.trans (D.trans aU))))
   rw [if_neg (fun hh => Bool.noConfusion (hh.symm.trans ar))] at hm
   refine Ck ?_
   have hq := (Option.some.inj hm).symm
   exact xJ ⟨an, ao, rfl, rfl, (D.trans aU), aV, (aq.trans al), hq⟩ (.refl _)
   rw [if_neg (fun hh => Bool.noConfusion (hh.symm.trans am))] at hm
   refine Ck ?_
   have hq := (Option.some.inj hm).symm
   exact xJ ⟨s, t, rfl, rfl, D, (aS.le D), al, hq⟩ (.refl _)
   rintro V _ _ ⟨i, n, rfl, rfl, au, W, av, bG⟩
   rw [bG] at U
   have hm := elimL U
   refine Cs ?_
   obtain ⟨bH, bI, bJ⟩ := bS hm
   refine Cj (fun aW e' hp' => [(0, sv a i c), (1, iv d), (2, iv e), (3, iv p), (8, bv j), (9, bv k), (10, iv (e - d)), (11, iv y), (87, bv bH)] = e' ∧ (n ++ R) = hp' ∧ V.Le aW) ?_ ?_
   have hm := bI
   by_cases X : 0 < d
   rw [if_pos X] at hm
   obtain ⟨_, aw, hm⟩ := bS hm
   obtain ⟨bK, bL, hm⟩ := bS hm
   obtain ⟨bM, bN, hm⟩ := bS hm
   obtain ⟨bO, bP, hm⟩ := bS hm
   refine Di mixed (.refl _)<|E0 0 rfl (sM rfl)<|E0 1 rfl (st_gtr_t rfl rfl X)<|E0 2 rfl (sM rfl)<|Yz 3 75 rfl (sM rfl)<|Yz 4 75 rfl (sM rfl) ?_
   have aw := (kS aw).2
   refine Yz 5 75 rfl (sb rfl rfl aw) ?_
   obtain ⟨bQ, bR, bT⟩ := iS bL
   obtain ⟨co, cp, cq, cr, cs, bU, bV, bW, bX, ct, cu⟩ := OS.get (sz := 1) rfl (by decide) W bT
   obtain ⟨rfl, rfl⟩ := bU
   refine Yz 6 75 rfl (sI bQ rfl rfl bR bX bW sl42)<|Ey 7 75 rfl (st_load_rd rfl one3 (fun w ho => bV w _ ho (List.sublist_append_left _ _) 0 _ rfl))<|Yz 8 75 rfl (sM rfl)<|Yz 9 75 rfl (sM rfl) ?_
   obtain ⟨bY, bZ, b0⟩ := iS bN
   obtain ⟨cv, cw, cx, cy, cz, b1, b2, b3, b4, cA, cB⟩ := OS.get (sz := 1) rfl (by decide) W b0
   obtain ⟨rfl, rfl⟩ := b1
   refine Yz 10 75 rfl (sI bY rfl rfl bZ b4 b3 sl42)<|Ey 11 75 rfl (st_load_rd rfl one3 (fun w ho => b2 w _ ho (List.sublist_append_left _ _) 0 _ rfl))<|Eo<|Da [12] (by kernel_rfl) rfl ?_
   refine R_doY lr rfl rfl 75 rfl rfl rfl (uW _ call62 rfl (fun w ho => cCmpLess _ [] bK bM bO bP) (fun _ _ _ h => h.2.symm)) ?_ ?_
   rintro _ _ ⟨⟨_, rfl, _⟩, rfl⟩
   refine ⟨.inr (.refl _), ?_⟩
   refine Ei lr (.refl _)<|Yz 13 75 rfl (sn2 rfl)<|E0 14 rfl (pT rfl rfl)<|Eo<|Dd (by kernel_rfl) ?_
   obtain rfl := o1 hm
   exact xJ ⟨rfl, rfl, lr⟩ (.refl _)
   exact Rn
   rw [if_neg X] at hm
   refine Di mixed (.refl _)<|E0 0 rfl (sM rfl)<|E0 1 rfl (st_gtr_f rfl rfl X)<|E0 2 rfl (sM rfl)<|En 3 75 rfl rfl rfl<|En 4 75 rfl rfl rfl<|En 5 75 rfl rfl rfl<|En 6 75 rfl rfl rfl<|En 7 75 rfl rfl rfl<|En 8 75 rfl rfl rfl ?_
   refine En 9 75 rfl rfl rfl<|En 10 75 rfl rfl rfl<|En 11 75 rfl rfl rfl<|En 12 75 rfl rfl rfl<|En 13 75 rfl rfl rfl<|E0 14 rfl (pF rfl rfl)<|Eo<|Dd (by kernel_rfl) ?_
   obtain rfl := o1 hm
   exact xJ ⟨rfl, rfl, lr⟩ (.refl _)
   rintro aW _ _ ⟨rfl, rfl, E⟩
   have hm := bJ
   refine Cc _ rfl (fun ax => ?_) (fun ax => ?_)
   rw [if_pos ax] at hm
   refine Cr<|M rfl rfl<|M rfl rfl<|M rfl rfl<|M rfl rfl ?_
   obtain ⟨⟨b5, aX⟩, b6, hm⟩ := bS hm
   have hm := (unc2E hm)
   refine t_out1 [] [] n R rfl<|Tg _ rfl call63 rfl (cSlicesPartitionEqualOrdered _ _ d e y i a c n (W.le E) b5 aX b6) ?_
   rintro _ cC _ b7 ⟨aY, rfl, rfl, b8, aZ⟩
   refine t_in1 [] [] aY R rfl<|Tr 0 rfl (v' := sv a aX c) (by show Value.slice _ _ _ = Value.slice _ _ _; rw [aZ])<|As rfl rfl<|Te<|Cr<|M rfl rfl<|As rfl rfl<|Te<|Ce<|Xe ?_
   refine Xo ?_
   exact xM hm ⟨aY, rfl, rfl, ((x.trans (S.trans (T.trans (au.trans (E.trans b7)))))), b8, (aZ.trans av)⟩ (.refl _)
   rw [if_neg (fun hh => Bool.noConfusion (hh.symm.trans ax))] at hm
   refine Ck<|Xn<|Cr<|M rfl rfl<|M rfl rfl<|M rfl rfl<|M rfl rfl ?_
   obtain ⟨⟨ay, b9, Y⟩, ca, hm⟩ := bS hm
   have hm := (unc3E hm)
   refine t_out1 [] [] n R rfl<|Tg _ rfl call64 rfl (cSlicesPartitionOrdered _ _ d e y i a c n (W.le E) ay b9 Y ca) ?_
   rintro _ cD _ a0 ⟨F, rfl, rfl, a1, az⟩
   refine t_in1 [] [] F R rfl<|Tr 0 rfl (v' := sv a Y c) (by show Value.slice _ _ _ = Value.slice _ _ _; rw [az])<|M rfl rfl<|Ts rfl (st_extract rfl rfl)<|Ts rfl (st_extract rfl rfl)<|As rfl rfl<|As rfl rfl<|Te<|Cr<|M rfl rfl ?_
   refine As rfl rfl<|Te<|Cr<|M rfl rfl<|M rfl rfl ?_
   obtain ⟨_, aA, hm⟩ := bS hm
   have aA := (kS aA).2
   refine Ts rfl (sb rfl rfl aA)<|M rfl rfl<|M rfl rfl ?_
   obtain ⟨_, aB, hm⟩ := bS hm
   have aB := (kS aB).2
   refine Ts rfl (sb rfl rfl aB)<|As rfl rfl<|As rfl rfl<|Te<|Cr<|M rfl rfl ?_
   obtain ⟨_, cb, hm⟩ := bS hm
   obtain ⟨_, aC, hm⟩ := bS hm
   have aC := (kS aC).2
   refine Ts rfl (st_quo rfl rfl (ne0_some cb) aC)<|As rfl rfl<|Te<|Cr<|M rfl rfl<|M rfl rfl<|Ts rfl (q3 rfl rfl)<|Te ?_
   refine Cc _ rfl (fun aD => ?_) (fun aD => ?_)
   rw [if_pos (of_decide_eq_true aD)] at hm
   refine Cr<|M rfl rfl<|M rfl rfl<|Ts rfl (q6 rfl rfl)<|As rfl rfl<|Te<|Cr<|M rfl rfl<|M rfl rfl<|M rfl rfl ?_
   refine M rfl rfl ?_
   obtain ⟨a2, cc, hm⟩ := bS hm
   refine t_out1 [] [] F R rfl<|Tg _ rfl call46 rfl (ih _ _ d ay p Y a c F a1 a2 cc) ?_
   rintro _ cE _ cd ⟨a3, rfl, rfl, ce, a4⟩
   refine t_in1 [] [] a3 R rfl<|Tr 0 rfl (v' := sv a a2 c) (by show Value.slice _ _ _ = Value.slice _ _ _; rw [a4])<|Te<|Cg<|M rfl rfl ?_
   obtain ⟨_, aE, hm⟩ := bS hm
   have aE := (kS aE).2
   refine Ts rfl (sa rfl rfl aE)<|As rfl rfl<|Tn<|Xm ?_
   exact xM hm ⟨a3, rfl, rfl, ((x.trans (S.trans (T.trans (au.trans (E.trans (a0.trans cd))))))), ce, (a4.trans (az.trans av))⟩ (.refl _)
   rw [if_neg (of_decide_eq_false aD)] at hm
   refine Cr<|M rfl rfl<|M rfl rfl<|Ts rfl (q6 rfl rfl)<|As rfl rfl<|Te<|Cr<|M rfl rfl<|M rfl rfl ?_
   obtain ⟨_, aF, hm⟩ := bS hm
   have aF := (kS aF).2
   refine Ts rfl (sa rfl rfl aF)<|M rfl rfl<|M rfl rfl ?_
   obtain ⟨a5, cf, hm⟩ := bS hm
   refine t_out1 [] [] F R rfl<|Tg _ rfl call46 rfl (ih _ _ (ay + 1) e p Y a c F a1 a5 cf) ?_
   rintro _ cG _ cg ⟨a6, rfl, rfl, ch, a7⟩
   refine t_in1 [] [] a6 R rfl<|Tr 0 rfl (v' := sv a a5 c) (by show Value.slice _ _ _ = Value.slice _ _ _; rw [a7])<|Te<|Cg<|M rfl rfl<|As rfl rfl<|Tn<|Xm ?_
   exact xM hm ⟨a6, rfl, rfl, ((x.trans (S.trans (T.trans (au.trans (E.trans (a0.trans cg))))))), ch, (a7.trans (az.trans av))⟩ (.refl _)

set_option maxRecDepth 20000 in
theorem cSlicesSort (b : Base) (R : Hp) (a : (List Int)) (c : OA) (d : Nat) (e : Hp) (l : OS 3 (OT.fr rI) b.w (sv c a d) a e) (f : (List Int)) (hm : mSlicesSort a = some f) :
    CallsG Try.prog 30 [sv c a d] b ((e ++ R)) (fun v b' hp' => ∃ (i : Hp), .tuple #[] = v ∧ (i ++ R) = hp' ∧ OS 3 (OT.fr rI) b'.w (sv c f d) f i ∧ f.length = a.length) := by
 refine fE 11 Try.func30 rfl Try.ntmps30 rfl ?_
 unfold mSlicesSort at hm
 refine Cr<|M rfl rfl<|Ts rfl (sE rfl sl42)<|As rfl rfl<|Te<|Cg<|M rfl rfl<|M rfl rfl<|M rfl rfl<|Ts rfl (st_conv rfl int3_i64 int79_u64) ?_
 obtain ⟨j, m, hm⟩ := bS hm
 refine Do rfl (uW _ call47 rfl (fun w ho => cBitsLen _ [] (IntKind.wrap .u64 (a.length : Int)) j m) (fun _ _ _ h => h.2.symm)) ?_
 rintro _ _ ⟨⟨_, rfl, _⟩, rfl⟩
 obtain ⟨n, g, hm⟩ := bS hm
 obtain ⟨o, g⟩ := lim_some g
 refine t_out1 [] [] e R rfl<|Tg _ rfl call46 rfl (cSlicesPdqsortOrdered o _ _ 0 (a.length : Int) j a c d e l n g) ?_
 rintro _ s _ p ⟨k, rfl, rfl, q, r⟩
 refine t_in1 [] [] k R rfl<|Tn ?_
 obtain rfl := o1 hm
 exact endM p rfl (.refl _) ⟨k, rfl, rfl, q, (r.trans rfl)⟩

set_option maxHeartbeats 1000000 in
set_option maxRecDepth 20000 in
theorem cFleetStandIns_1_3 (rcmFleetStandIns_1_2 : (Int) → ((List FleetShift)) → (Int) → (Int) → (Int) → (Int) → (Int) → (Int) → (Int) → ((List (List Int))) → ((List Int)) → ((List Int)) → ((List Int)) → ((List (List Int))) → ((List (Int × Int))) → ((List (FleetAbsence × Bool))) → Option ((List Int) × (List (List Int)) × (List (List Int)) × (List Int))) (ihmFleetStandIns_1_2 : ∀ (b : Base) (R : Hp) (L : Base) (hb0 : L.Le b) (al : Int) (T : (List FleetShift)) (W : Int) (X : Int) (Y : Int) (Z : Int) (aa : Int) (ab : Int) (ac : Int) (an : (List (List Int))) (am : (List Int)) (U : (List Int)) (K : (List Int)) (l62 : (List (List Int))) (l64 : (List (Int × Int))) (l65 : (List (FleetAbsence × Bool))) (G : Nat) (y : Nat) (H : Nat) (I : Nat) (z : Nat) (A : Nat) (B : Nat) (C : Nat) (D : Nat) (E : Nat) (ad : OA) (ae : Nat) (A3 : OA) (c4 : Nat) (n : Hp) (A8 : OA) (c9 : Nat) (m : Hp) (A13 : OA) (c14 : Nat) (p : Hp) (ag : OA) (ah : Nat) (a : Hp) (t : OA) (u : Nat) (q : Hp) (ai : Nat) (c : Hp) (aj : Nat) (d : Hp) (h47 : FZ rFleetShift b.w ad ae T) (h5 : OS 42 (OT.fr (RT.own1 L 3 rI)) b.w (sv A3 an c4) an n) (hnz57 : (A3 = none ↔ an = [])) (h10 : OS 3 (OT.fr rI) b.w (sv A8 am c9) am m) (hnz59 : (A8 = none ↔ am = [])) (h15 : OS 3 (OT.fr rI) b.w (sv A13 U c14) U p) (h20 : OS 3 (OT.fr rI) b.w (sv ag K ah) K a) (h25 : OS 42 (OT.fr (RT.own1 L 3 rI)) b.w (sv t l62 u) l62 q) (hnz63 : (t = none ↔ l62 = [])) (h29 : OM rI (OT.fr rI) false false b.w ai l64 c) (h33 : OM rFleetAbsence (OT.fr RT.bool) true false b.w aj l65 d) (l4887 : (List Int)) (l4888 : (List (List Int))) (l4891 : (List (List Int))) (l4893 : (List Int)) (hm : rcmFleetStandIns_1_2 al T W X Y Z aa ab ac an am U K l62 l64 l65 = some (l4887, l4888, l4891, l4893)),
    CallsG Try.prog 31 [iv al, pb G, pb y, pb H, pb I, pb z, pb A, pb B, pb C, pb D, pb E] b ((G, Cl 23 [sv A3 an c4]) :: (y, Cl 42 [sv A8 am c9]) :: (H, Cl 42 [sv A13 U c14]) :: (I, Cl 42 [sv ag K ah]) :: (z, Cl 23 [sv t l62 u]) :: (A, Cl 77 [.map (some ai)]) :: (B, Cl 76 [.map (some aj)]) :: (C, Cl 45 [sv ad T ae]) :: (D, Cl 27 [iv W, iv X, iv Y, iv Z, iv aa, iv ab, iv ac]) :: (E, Cl 70 [.func (.func 31) #[] #[pb G, pb y, pb H, pb I, pb z, pb A, pb B, pb C, pb D, pb E]]) :: (n ++ (m ++ (p ++ (a ++ (q ++ (c ++ (d ++ R)))))))) (fun v b' hp' => ∃ (A4871 : OA), ∃ (c4872 : Nat), ∃ (hs4870 : Hp), ∃ (hs4875 : Hp), ∃ (A4879 : OA), ∃ (c4880 : Nat), ∃ (hs4878 : Hp), ∃ (A4884 : OA), ∃ (c4885 : Nat), ∃ (hs4883 : Hp), .tuple #[] = v ∧ (G, Cl 23 [sv A4879 l4891 c4880]) :: (y, Cl 42 [sv A4871 l4887 c4872]) :: (H, Cl 42 [sv A4884 l4893 c4885]) :: (I, Cl 42 [sv ag K ah]) :: (z, Cl 23 [sv t l4888 u]) :: (A, Cl 77 [.map (some ai)]) :: (B, Cl 76 [.map (some aj)]) :: (C, Cl 45 [sv ad T ae]) :: (D, Cl 27 [iv W, iv X, iv Y, iv Z, iv aa, iv ab, iv ac]) :: (E, Cl 70 [.func (.func 31) #[] #[pb G, pb y, pb H, pb I, pb z, pb A, pb B, pb C, pb D, pb E]]) :: (hs4870 ++ (a ++ (hs4875 ++ (c ++ (d ++ (hs4878 ++ (hs4883 ++ R))))))) = hp' ∧ OS 3 (OT.fr rI) b'.w (sv A4871 l4887 c4872) l4887 hs4870 ∧ OS 42 (OT.fr (RT.own1 L 3 rI)) b'.w (sv t l4888 u) l4888 hs4875 ∧ l4888.length = l62.length ∧ (t = none ↔ l4888 = []) ∧ OS 42 (OT.fr (RT.own1 L 3 rI)) b'.w (sv A4879 l4891 c4880) l4891 hs4878 ∧ (A4879 = none ↔ l4891 = []) ∧ OS 3 (OT.fr rI) b'.w (sv A4884 l4893 c4885) l4893 hs4883)) : ∀ (N : Nat) (b : Base) (R : Hp) (L : Base) (hb0 : L.Le b) (al : Int) (T : (List FleetShift)) (W : Int) (X : Int) (Y : Int) (Z : Int) (aa : Int) (ab : Int) (ac : Int) (an : (List (List Int))) (am : (List Int)) (l59 : (List Int)) (U : (List Int)) (K : (List (List Int))) (l63 : (List (Int × Int))) (l64 : (List (FleetAbsence × Bool))) (G : Nat) (y : Nat) (H : Nat) (I : Nat) (z : Nat) (A : Nat) (B : Nat) (C : Nat) (D : Nat) (E : Nat) (ad : OA) (ae : Nat) (A3 : OA) (c4 : Nat) (n : Hp) (A8 : OA) (c9 : Nat) (m : Hp) (A13 : OA) (c14 : Nat) (p : Hp) (ag : OA) (ah : Nat) (a : Hp) (t : OA) (u : Nat) (q : Hp) (ai : Nat) (c : Hp) (aj : Nat) (d : Hp) (h47 : FZ rFleetShift b.w ad ae T) (h5 : OS 42 (OT.fr (RT.own1 L 3 rI)) b.w (sv A3 an c4) an n) (hnz57 : (A3 = none ↔ an = [])) (h10 : OS 3 (OT.fr rI) b.w (sv A8 am c9) am m) (h15 : OS 3 (OT.fr rI) b.w (sv A13 l59 c14) l59 p) (h20 : OS 3 (OT.fr rI) b.w (sv ag U ah) U a) (h25 : OS 42 (OT.fr (RT.own1 L 3 rI)) b.w (sv t K u) K q) (hnz62 : (t = none ↔ K = [])) (h29 : OM rI (OT.fr rI) false false b.w ai l63 c) (h33 : OM rFleetAbsence (OT.fr RT.bool) true false b.w aj l64 d) (l3303 : (List Int)) (l3304 : (List (List Int))) (l3307 : (List (List Int))) (l3309 : (List Int)) (hm : mFleetStandIns_1_3 rcmFleetStandIns_1_2 N al T W X Y Z aa ab ac an am l59 U K l63 l64 = some (l3303, l3304, l3307, l3309)),
    CallsG Try.prog 31 [iv al, pb G, pb y, pb H, pb I, pb z, pb A, pb B, pb C, pb D, pb E] b ((G, Cl 23 [sv A3 an c4]) :: (y, Cl 42 [sv A8 am c9]) :: (H, Cl 42 [sv A13 l59 c14]) :: (I, Cl 42 [sv ag U ah]) :: (z, Cl 23 [sv t K u]) :: (A, Cl 77 [.map (some ai)]) :: (B, Cl 76 [.map (some aj)]) :: (C, Cl 45 [sv ad T ae]) :: (D, Cl 27 [iv W, iv X, iv Y, iv Z, iv aa, iv ab, iv ac]) :: (E, Cl 70 [.func (.func 31) #[] #[pb G, pb y, pb H, pb I, pb z, pb A, pb B, pb C, pb D, pb E]]) :: (n ++ (m ++ (p ++ (a ++ (q ++ (c ++ (d ++ R)))))))) (fun v b' hp' => ∃ (A3287 : OA), ∃ (c3288 : Nat), ∃ (hs3286 : Hp), ∃ (hs3291 : Hp), ∃ (A3295 : OA), ∃ (c3296 : Nat), ∃ (hs3294 : Hp), ∃ (A3300 : OA), ∃ (c3301 : Nat), ∃ (hs3299 : Hp), .tuple #[] = v ∧ (G, Cl 23 [sv A3295 l3307 c3296]) :: (y, Cl 42 [sv A3287 l3303 c3288]) :: (H, Cl 42 [sv A3300 l3309 c3301]) :: (I, Cl 42 [sv ag U ah]) :: (z, Cl 23 [sv t l3304 u]) :: (A, Cl 77 [.map (some ai)]) :: (B, Cl 76 [.map (some aj)]) :: (C, Cl 45 [sv ad T ae]) :: (D, Cl 27 [iv W, iv X, iv Y, iv Z, iv aa, iv ab, iv ac]) :: (E, Cl 70 [.func (.func 31) #[] #[pb G, pb y, pb H, pb I, pb z, pb A, pb B, pb C, pb D, pb E]]) :: (hs3286 ++ (a ++ (hs3291 ++ (c ++ (d ++ (hs3294 ++ (hs3299 ++ R))))))) = hp' ∧ OS 3 (OT.fr rI) b'.w (sv A3287 l3303 c3288) l3303 hs3286 ∧ OS 42 (OT.fr (RT.own1 L 3 rI)) b'.w (sv t l3304 u) l3304 hs3291 ∧ l3304.length = K.length ∧ (t = none ↔ l3304 = []) ∧ OS 42 (OT.fr (RT.own1 L 3 rI)) b'.w (sv A3295 l3307 c3296) l3307 hs3294 ∧ (A3295 = none ↔ l3307 = []) ∧ OS 3 (OT.fr rI) b'.w (sv A3300 l3309 c3301) l3309 hs3299) := by
  intro N
  induction N with
  | zero =>
    intro b R L hb0 al T W X Y Z aa ab ac an am l59 U K l63 l64 G y H I z A B C D E ad ae A3 c4 n A8 c9 m A13 c14 p ag ah a t u q ai c aj d h47 h5 hnz57 h10 h15 h20 h25 hnz62 h29 h33 l3303 l3304 l3307 l3309 hm
    unfold mFleetStandIns_1_3 at hm
    cases hm
  | succ N ih =>
   intro b R L hb0 al T W X Y Z aa ab ac an am l59 U K l63 l64 G y H I z A B C D E ad ae A3 c4 n A8 c9 m A13 c14 p ag ah a t u q ai c aj d h47 h5 hnz57 h10 h15 h20 h25 hnz62 h29 h33 l3303 l3304 l3307 l3309 hm
   refine fE 96 Try.func31 rfl Try.ntmps31 rfl ?_
   unfold mFleetStandIns_1_3 at hm
   refine Cs ?_
   obtain ⟨x3313, hj3314, hk3314⟩ := bS hm
   refine Cj (fun b3311 e' hp' => [(0, iv al), (1, pb G), (2, pb y), (3, pb H), (4, pb I), (5, pb z), (6, pb A), (7, pb B), (8, pb C), (9, pb D), (10, pb E), (23, bv x3313)] = e' ∧ (G, Cl 23 [sv A3 an c4]) :: (y, Cl 42 [sv A8 am c9]) :: (H, Cl 42 [sv A13 l59 c14]) :: (I, Cl 42 [sv ag U ah]) :: (z, Cl 23 [sv t K u]) :: (A, Cl 77 [.map (some ai)]) :: (B, Cl 76 [.map (some aj)]) :: (C, Cl 45 [sv ad T ae]) :: (D, Cl 27 [iv W, iv X, iv Y, iv Z, iv aa, iv ab, iv ac]) :: (E, Cl 70 [.func (.func 31) #[] #[pb G, pb y, pb H, pb I, pb z, pb A, pb B, pb C, pb D, pb E]]) :: (n ++ (m ++ (p ++ (a ++ (q ++ (c ++ (d ++ R))))))) = hp' ∧ b.Le b3311) ?_ ?_
   have hm := hj3314
   refine Cg<|Ts rfl (sL 0 rfl one23 rfl rfl)<|Ts rfl (st_neqnil_z rfl rfl hnz57 sl23) ?_
   rcases Bool.eq_false_or_eq_true (!an.isEmpty) with hc3315 | hc3315
   rw [if_neg (fun hh => Bool.noConfusion (hh.symm.trans (nt hc3315)))] at hm
   refine Tr 16 rfl (v' := .bool true) (by rw [hc3315] <;> rfl)<|M rfl rfl<|Ys 17 rfl rfl rfl<|Ts rfl (sL 1 rfl one42 rfl rfl)<|Ys 17 rfl rfl rfl<|Ts rfl (sE rfl sl42)<|Ys 17 rfl rfl rfl<|Ts rfl (sL 2 rfl one42 rfl rfl)<|Ys 17 rfl rfl rfl<|Ts rfl (sE rfl sl42) ?_
   refine Ys 17 rfl rfl rfl<|Ts rfl (q6 rfl rfl)<|Ts rfl (pT rfl rfl)<|Tn ?_
   obtain rfl := o1 hm
   refine Xp 9 rfl<|Xp 9 rfl<|Xp 9 rfl<|Xp 9 rfl<|Xp 9 rfl<|Xp 9 rfl<|Xp 9 rfl<|Xp 9 rfl<|Xp 9 rfl<|Xp 9 rfl ?_
   refine x_front7 [_, _, _, _, _, _, _, _, _, _] n m p a q c d R rfl<|x_front7 [_, _, _, _, _, _, _, _, _, _] d n m p a q c R rfl<|x_front7 [_, _, _, _, _, _, _, _, _, _] c d n m p a q R rfl<|x_front7 [_, _, _, _, _, _, _, _, _, _] q c d n m p a R rfl<|x_front7 [_, _, _, _, _, _, _, _, _, _] a q c d n m p R rfl<|x_front7 [_, _, _, _, _, _, _, _, _, _] p a q c d n m R rfl<|x_front7 [_, _, _, _, _, _, _, _, _, _] m p a q c d n R rfl ?_
   exact xJ ⟨rfl, rfl, lr⟩ (.refl _)
   rw [if_pos (nf hc3315)] at hm
   refine Tr 16 rfl (v' := .bool false) (by rw [hc3315] <;> rfl)<|M rfl rfl<|No 17 rfl rfl rfl rfl rfl<|No 17 rfl rfl rfl rfl rfl<|No 17 rfl rfl rfl rfl rfl<|No 17 rfl rfl rfl rfl rfl<|No 17 rfl rfl rfl rfl rfl<|Ts rfl (pF rfl rfl)<|Tn ?_
   obtain rfl := o1 hm
   refine Xp 9 rfl<|Xp 9 rfl<|Xp 9 rfl<|Xp 9 rfl<|Xp 9 rfl<|Xp 9 rfl<|Xp 9 rfl<|Xp 9 rfl<|Xp 9 rfl<|Xp 9 rfl ?_
   refine x_front7 [_, _, _, _, _, _, _, _, _, _] n m p a q c d R rfl<|x_front7 [_, _, _, _, _, _, _, _, _, _] d n m p a q c R rfl<|x_front7 [_, _, _, _, _, _, _, _, _, _] c d n m p a q R rfl<|x_front7 [_, _, _, _, _, _, _, _, _, _] q c d n m p a R rfl<|x_front7 [_, _, _, _, _, _, _, _, _, _] a q c d n m p R rfl<|x_front7 [_, _, _, _, _, _, _, _, _, _] p a q c d n m R rfl<|x_front7 [_, _, _, _, _, _, _, _, _, _] m p a q c d n R rfl ?_
   exact xJ ⟨rfl, rfl, lr⟩ (.refl _)
   rintro b3311 _ _ ⟨rfl, rfl, F⟩
   have hm := hk3314
   refine Cc _ rfl (fun hc3316 => ?_) (fun hc3316 => ?_)
   rw [if_pos hc3316] at hm
   refine Ct<|Xr ?_
   obtain ⟨rfl, rfl, rfl, rfl⟩ := some4 hm
   refine Xp 9 rfl<|Xp 9 rfl<|Xp 9 rfl<|Xp 9 rfl<|Xp 9 rfl<|Xp 9 rfl<|Xp 9 rfl<|Xp 9 rfl<|Xp 9 rfl<|Xp 9 rfl ?_
   refine X3 [_, _, _, _, _, _, _, _, _, _] n m p (a ++ (q ++ (c ++ (d ++ R)))) rfl<|X2 [_, _, _, _, _, _, _, _, _, _] p n (m ++ (a ++ (q ++ (c ++ (d ++ R))))) rfl<|x_front7 [_, _, _, _, _, _, _, _, _, _] n p m a q c d R rfl<|x_front7 [_, _, _, _, _, _, _, _, _, _] d n p m a q c R rfl<|x_front7 [_, _, _, _, _, _, _, _, _, _] c d n p m a q R rfl<|x_front7 [_, _, _, _, _, _, _, _, _, _] q c d n p m a R rfl<|x_front7 [_, _, _, _, _, _, _, _, _, _] a q c d n p m R rfl ?_
   have he3317 := (h10.le F)
   have he3318 := (h25.le F)
   have he3319 := (h5.le F)
   have he3320 := (h15.le F)
   exact rM (rs := []) (vs := []) trivial ⟨A8, c9, m, q, A3, c4, n, A13, c14, p, rfl, rfl, he3317, he3318, rfl, hnz62, he3319, hnz57, he3320⟩ (.refl _) F
   rw [if_neg (fun hh => Bool.noConfusion (hh.symm.trans hc3316))] at hm
   refine Ck<|Xn<|Cs<|Cr<|M rfl rfl<|Ts rfl (sL 3 rfl one42 rfl rfl)<|Ts rfl (sE rfl sl42)<|Ts rfl (q1 rfl rfl)<|Te ?_
   refine Cc _ rfl (fun hc3321 => ?_) (fun hc3321 => ?_)
   rw [if_pos (of_decide_eq_true hc3321)] at hm
   obtain ⟨⟨l3364, l3366⟩, hj3367, hk3367⟩ := bS hm
   refine Cj (fun b3352 e' hp' => ∃ (A3356 : OA), ∃ (c3357 : Nat), ∃ (hs3355 : Hp), ∃ (A3361 : OA), ∃ (c3362 : Nat), ∃ (hs3360 : Hp), [] = e' ∧ (G, Cl 23 [sv A3356 l3364 c3357]) :: (y, Cl 42 [sv A8 am c9]) :: (H, Cl 42 [sv A3361 l3366 c3362]) :: (I, Cl 42 [sv ag U ah]) :: (z, Cl 23 [sv t K u]) :: (A, Cl 77 [.map (some ai)]) :: (B, Cl 76 [.map (some aj)]) :: (C, Cl 45 [sv ad T ae]) :: (D, Cl 27 [iv W, iv X, iv Y, iv Z, iv aa, iv ab, iv ac]) :: (E, Cl 70 [.func (.func 31) #[] #[pb G, pb y, pb H, pb I, pb z, pb A, pb B, pb C, pb D, pb E]]) :: (n ++ (m ++ (p ++ (a ++ (q ++ (c ++ (d ++ (hs3355 ++ (hs3360 ++ R))))))))) = hp' ∧ b3311.Le b3352 ∧ OS 42 (OT.fr (RT.own1 L 3 rI)) b3352.w (sv A3356 l3364 c3357) l3364 hs3355 ∧ (A3356 = none ↔ l3364 = []) ∧ OS 3 (OT.fr rI) b3352.w (sv A3361 l3366 c3362) l3366 hs3360) ?_ ?_
   have hm := hj3367
   obtain ⟨_, h3383, hm⟩ := bS hm
   obtain ⟨l3388, hcl3389, hm⟩ := bS hm
   obtain ⟨_, h3396, hm⟩ := bS hm
   refine Di mixed (.cons _ (.refl _))<|Es 0 rfl (sL 3 rfl one23 rfl rfl)<|Es 2 rfl (sL 0 rfl one42 rfl rfl)<|Eo ?_
   have h3383 := room_some h3383
   refine Da [1] (by kernel_rfl) rfl ?_
   refine Rd2 lr rfl rfl (u_cloneOwn (r := (RT.own1 L 3 rI)) (l := K) (sz := 1) (by_ := 24) [_, _, _, _, _, _, _, _, _, _] (n ++ (m ++ (p ++ (a ++ (q ++ (c ++ (d ++ R))))))) rfl clSlicesClone_2 call26 rfl rfl (h25.le F) (.cons _ (.cons _ (.cons _ (.cons _ (.cons _ (.cons _ (.cons _ (.cons _ (.cons _ (.cons _ (ss n (ss m (ss p (ss a (List.sublist_append_left _ _))))))))))))))) h3383) ?_ ?_
   rintro _ _ ⟨A3386, c3387, hs3384, rfl, rfl, h3385⟩
   refine ⟨.inr (.cons _ (.cons_cons _ (.cons_cons _ (.cons_cons _ (.cons_cons _ (.cons_cons _ (.cons_cons _ (.cons_cons _ (.cons_cons _ (.cons_cons _ (ss hs3384 (.refl _)))))))))))), ?_⟩
   refine Da [3] (by kernel_rfl) rfl ?_
   refine Rd2 lr rfl rfl (u_callWF [_, _, _, _, _, _, _, _, _, _] (hs3384 ++ (n ++ (m ++ (p ++ (a ++ (q ++ (c ++ (d ++ R)))))))) _ rfl call27 rfl (fun w ho => cSlicesClone _ [] am A8 c9 (OS.now (o := (OT.fr rI)) (l := am) (hs := m) (h10.le F) ho (.cons _ (.cons _ (.cons _ (.cons _ (.cons _ (.cons _ (.cons _ (.cons _ (.cons _ (.cons _ (ss hs3384 (ss n (List.sublist_append_left _ _)))))))))))))) l3388 hcl3389)) ?_ ?_
   rintro _ _ ⟨_, _, rfl, A3390, c3391, hs3392, rfl, hq3395, h3393⟩
   obtain rfl := List.append_cancel_right hq3395
   have h3394 := flat_fz (w' := b3311.w) (fun _ _ _ _ h => h) h3393
   refine ⟨.inr (.cons _ (.cons_cons _ (.cons_cons _ (.cons_cons _ (.cons_cons _ (.cons_cons _ (.cons_cons _ (.cons_cons _ (.cons_cons _ (.cons_cons _ (ss hs3392 (ss hs3384 (.refl _))))))))))))), ?_⟩
   have hnz3397 : (A3386 = none ↔ K = []) := ⟨fun e => absurd e (OS.ne h3385 h3396), fun e => absurd e (some?_some h3396)⟩
   refine Da [4] (by kernel_rfl) rfl ?_
   refine Rd2 lr rfl rfl (uS 0 rfl rfl siz23 rfl rfl (by simp)) ?_ ?_
   rintro _ _ rfl
   refine ⟨.inr (.cons _ (.cons_cons _ (.cons_cons _ (.cons_cons _ (.cons_cons _ (.cons_cons _ (.cons_cons _ (.cons_cons _ (.cons_cons _ (.cons_cons _ (ss hs3392 (ss hs3384 (.refl _))))))))))))), ?_⟩
   refine Da [5] (by kernel_rfl) rfl ?_
   refine Rd2 lr rfl rfl (uS 2 rfl rfl siz42 rfl rfl (by simp)) ?_ ?_
   rintro _ _ rfl
   refine ⟨.inl (by kernel_rfl), ?_⟩
   refine Dd (by kernel_rfl) ?_
   obtain ⟨rfl, rfl⟩ := some2 hm
   refine Xp 9 rfl<|Xp 9 rfl<|Xp 9 rfl<|Xp 9 rfl<|Xp 9 rfl<|Xp 9 rfl<|Xp 9 rfl<|Xp 9 rfl<|Xp 9 rfl<|Xp 9 rfl ?_
   refine X2 [_, _, _, _, _, _, _, _, _, _] hs3392 hs3384 (n ++ (m ++ (p ++ (a ++ (q ++ (c ++ (d ++ R))))))) rfl<|x_front9 [_, _, _, _, _, _, _, _, _, _] hs3384 hs3392 n m p a q c d R rfl<|x_front9 [_, _, _, _, _, _, _, _, _, _] d hs3384 hs3392 n m p a q c R rfl<|x_front9 [_, _, _, _, _, _, _, _, _, _] c d hs3384 hs3392 n m p a q R rfl<|x_front9 [_, _, _, _, _, _, _, _, _, _] q c d hs3384 hs3392 n m p a R rfl<|x_front9 [_, _, _, _, _, _, _, _, _, _] a q c d hs3384 hs3392 n m p R rfl<|x_front9 [_, _, _, _, _, _, _, _, _, _] p a q c d hs3384 hs3392 n m R rfl<|x_front9 [_, _, _, _, _, _, _, _, _, _] m p a q c d hs3384 hs3392 n R rfl ?_
   exact xJ ⟨A3386, c3387, hs3384, A3390, c3391, hs3392, rfl, rfl, lr, h3385, hnz3397, h3394⟩ (.refl _)
   exact Rn
   exact Rn
   exact Rn
   exact Rn
   rintro b3352 _ _ ⟨A3356, c3357, hs3355, A3361, c3362, hs3360, rfl, rfl, hle3353, h3358, hnz3365, h3363⟩
   have hm := (unc2E hk3367)
   refine Ct<|Xr ?_
   obtain ⟨rfl, rfl, rfl, rfl⟩ := some4 hm
   refine Xp 9 rfl<|Xp 9 rfl<|Xp 9 rfl<|Xp 9 rfl<|Xp 9 rfl<|Xp 9 rfl<|Xp 9 rfl<|Xp 9 rfl<|Xp 9 rfl<|Xp 9 rfl ?_
   refine x_front9 [_, _, _, _, _, _, _, _, _, _] n m p a q c d hs3355 hs3360 R rfl<|x_front9 [_, _, _, _, _, _, _, _, _, _] hs3360 n m p a q c d hs3355 R rfl<|x_front9 [_, _, _, _, _, _, _, _, _, _] hs3355 hs3360 n m p a q c d R rfl<|x_front9 [_, _, _, _, _, _, _, _, _, _] d hs3355 hs3360 n m p a q c R rfl<|x_front9 [_, _, _, _, _, _, _, _, _, _] c d hs3355 hs3360 n m p a q R rfl<|x_front9 [_, _, _, _, _, _, _, _, _, _] q c d hs3355 hs3360 n m p a R rfl<|x_front8 [_, _, _, _, _, _, _, _, _, _] a q c d hs3355 hs3360 n m (p ++ R) rfl ?_
   have he3398 := (h10.le (F.trans hle3353))
   have he3399 := (h25.le (F.trans hle3353))
   exact rM (rs := []) (vs := []) trivial ⟨A8, c9, m, q, A3356, c3357, hs3355, A3361, c3362, hs3360, rfl, rfl, he3398, he3399, rfl, hnz62, h3358, hnz3365, h3363⟩ (.cons_cons _ (.cons_cons _ (.cons_cons _ (.cons_cons _ (.cons_cons _ (.cons_cons _ (.cons_cons _ (.cons_cons _ (.cons_cons _ (.cons_cons _ (sp m (sp a (sp q (sp c (sp d (sp hs3355 (sp hs3360 (ss n (ss p (.refl _)))))))))))))))))))) (F.trans hle3353)
   rw [if_neg (of_decide_eq_false hc3321)] at hm
   refine Ck<|Xn<|Cr<|Ts rfl (sL 3 rfl one42 rfl rfl)<|M rfl rfl ?_
   obtain ⟨x, h3401, hm⟩ := bS hm
   obtain ⟨j3402, hj3403, hx3404⟩ := iS h3401
   obtain ⟨cs3405, hs3410, P3411, P3412, hq3413, hr3406, hcs3407, hA3408, hlt3409, hb3414, hho3415⟩ := OS.get (sz := 1) rfl (by decide) (h20.le F) hx3404
   obtain ⟨rfl, rfl⟩ := hr3406
   refine Ts rfl (sI j3402 rfl rfl hj3403 hlt3409 hA3408 sl42)<|Ts rfl (st_load_rd rfl one3 (fun w ho => hcs3407 w _ ho (.cons _ (.cons _ (.cons _ (.cons _ (.cons _ (.cons _ (.cons _ (.cons _ (.cons _ (.cons _ (ss n (ss m (ss p (List.sublist_append_left _ _)))))))))))))) 0 _ rfl))<|As rfl rfl<|Te<|Cs<|Cr<|Ts rfl (sL 4 rfl one23 rfl rfl)<|Ts rfl (sE rfl sl23)<|M rfl rfl<|Te ?_
   refine Cb ?_
   have hb3417 : K.length ≤ 9223372036854775807 := (OS.len h25)
   refine Cp 3 rfl<|Cp 3 rfl<|Cp 2 rfl<|Cp 9 rfl<|Cp 9 rfl<|Cp 9 rfl<|Cp 9 rfl<|Cp 9 rfl<|Cp 9 rfl<|Cp 9 rfl ?_
   refine c_front3 [_, _, _, _, _, _, _, _, _, _] n m p (a ++ (q ++ (c ++ (d ++ R)))) rfl<|c_front2 [_, _, _, _, _, _, _, _, _, _] p n (m ++ (a ++ (q ++ (c ++ (d ++ R))))) rfl<|c_front7 [_, _, _, _, _, _, _, _, _, _] n p m a q c d R rfl<|c_front7 [_, _, _, _, _, _, _, _, _, _] d n p m a q c R rfl<|c_front6 [_, _, _, _, _, _, _, _, _, _] c d n p m a (q ++ R) rfl<|c_front6 [_, _, _, _, _, _, _, _, _, _] a c d n p m (q ++ R) rfl<|c_front7 [_, _, _, _, _, _, _, _, _, _] m a c d n p q R rfl ?_
   obtain ⟨⟨ao, l4482, l4483, l4485⟩, hl4487, hk4488⟩ := bS hm
   refine cS (fun O => unc4 fun ao l4482 l4483 l4485 => fun b4459 e' hp' => ∃ (s : Hp), ∃ (A4466 : OA), ∃ (c4467 : Nat), ∃ (j : Hp), ∃ (A4471 : OA), ∃ (c4472 : Nat), ∃ (f : Hp), ∃ (A4476 : OA), ∃ (c4477 : Nat), ∃ (g : Hp), [(0, iv al), (2, pb y), (5, pb z), (6, pb A), (7, pb B), (8, pb C), (9, pb D), (10, pb E), (12, iv x), (36, sv t ao u), (37, iv ((K.length : Int))), (38, iv ((O : Int)))] = e' ∧ (y, Cl 42 [sv A4466 l4482 c4467]) :: (z, Cl 23 [sv t ao u]) :: (A, Cl 77 [.map (some ai)]) :: (B, Cl 76 [.map (some aj)]) :: (C, Cl 45 [sv ad T ae]) :: (D, Cl 27 [iv W, iv X, iv Y, iv Z, iv aa, iv ab, iv ac]) :: (E, Cl 70 [.func (.func 31) #[] #[pb G, pb y, pb H, pb I, pb z, pb A, pb B, pb C, pb D, pb E]]) :: (G, Cl 23 [sv A4471 l4483 c4472]) :: (H, Cl 42 [sv A4476 l4485 c4477]) :: (I, Cl 42 [sv ag U ah]) :: (s ++ (j ++ (a ++ (c ++ (d ++ (f ++ (g ++ R))))))) = hp' ∧ b3311.Le b4459 ∧ OS 42 (OT.fr (RT.own1 L 3 rI)) b4459.w (sv t ao u) ao s ∧ ao.length = K.length ∧ (t = none ↔ ao = []) ∧ OS 3 (OT.fr rI) b4459.w (sv A4466 l4482 c4467) l4482 j ∧ OS 42 (OT.fr (RT.own1 L 3 rI)) b4459.w (sv A4471 l4483 c4472) l4483 f ∧ (A4471 = none ↔ l4483 = []) ∧ OS 3 (OT.fr rI) b4459.w (sv A4476 l4485 c4477) l4485 g) hl4487 ⟨q, A8, c9, m, A3, c4, n, A13, c14, p, rfl, rfl, lr, (h25.le F), rfl, hnz62, (h10.le F), (h5.le F), hnz57, (h15.le F)⟩ (.refl _) ?_ ?_
   rintro O ⟨ao, l4482, l4483, l4485⟩ b4459 _ _ oL3416 hknL3416 ⟨s, A4466, c4467, j, A4471, c4472, f, A4476, c4477, g, rfl, rfl, S, h4463, hln4480, hnz4481, h4468, h4473, hnz4484, h4478⟩ hstepL3416
   unfold mFleetStandIns_1_3_L3416 at hstepL3416
   have hm := (unc4E hstepL3416)
   refine Cr<|Ts rfl (lT rfl rfl (by omega))<|Te<|Cs<|c_cond_t rfl<|Ck<|Xn<|Cs<|Cb<|Cr ?_
   refine M rfl rfl ?_
   obtain ⟨x4489, h4490, hm⟩ := bS hm
   obtain ⟨j4491, hj4492, hx4493⟩ := iS h4490
   obtain ⟨cs4494, hs4499, P4500, P4501, hq4502, hr4495, hcs4496, hA4497, hlt4498, hb4503, hho4504⟩ := OS.get (sz := 1) rfl (by decide) h4463 hx4493
   obtain ⟨⟨A4505, c4506, rfl, h4507, h4508⟩, rfl⟩ := hr4495
   refine Ts rfl (sI j4491 rfl rfl hj4492 hlt4498 hA4497 sl23)<|Ts rfl (st_load_rd rfl one42 (fun w ho => hcs4496 w _ ho (.cons _ (.cons _ (.cons _ (.cons _ (.cons _ (.cons _ (.cons _ (.cons _ (.cons _ (.cons _ (List.sublist_append_left _ _))))))))))) 0 _ rfl))<|As rfl rfl<|As rfl rfl<|Te<|Cs ?_
   obtain ⟨x4557, hj4558, hk4558⟩ := bS hm
   refine Cj (fun b4555 e' hp' => [(0, iv al), (2, pb y), (5, pb z), (6, pb A), (7, pb B), (8, pb C), (9, pb D), (10, pb E), (12, iv x), (13, iv ((O : Int))), (14, sv A4505 x4489 c4506), (36, sv t ao u), (37, iv ((K.length : Int))), (38, iv ((O : Int))), (58, bv x4557)] = e' ∧ (y, Cl 42 [sv A4466 l4482 c4467]) :: (z, Cl 23 [sv t ao u]) :: (A, Cl 77 [.map (some ai)]) :: (B, Cl 76 [.map (some aj)]) :: (C, Cl 45 [sv ad T ae]) :: (D, Cl 27 [iv W, iv X, iv Y, iv Z, iv aa, iv ab, iv ac]) :: (E, Cl 70 [.func (.func 31) #[] #[pb G, pb y, pb H, pb I, pb z, pb A, pb B, pb C, pb D, pb E]]) :: (G, Cl 23 [sv A4471 l4483 c4472]) :: (H, Cl 42 [sv A4476 l4485 c4477]) :: (I, Cl 42 [sv ag U ah]) :: (s ++ (j ++ (a ++ (c ++ (d ++ (f ++ (g ++ R))))))) = hp' ∧ b4459.Le b4555) ?_ ?_
   have hm := hj4558
   obtain ⟨x4585, h4587, hm⟩ := bS hm
   by_cases hc4588 : (O : Int) = x4585
   rw [if_pos hc4588] at hm
   refine Di mixed (.refl _)<|E0 0 rfl (sM rfl)<|Es 1 rfl (sL 2 rfl one77 rfl rfl)<|E0 2 rfl (sM rfl) ?_
   have hx4586 := Option.some.inj h4587
   obtain ⟨v4582, hv4583, hr4584⟩ := OM.lookF kok3 (z0 := 0) (h29.le (F.trans S)) (key := iv x) (k := x) rfl mapt77 zero3 rfl
   rw [hx4586] at hv4583
   obtain rfl : v4582 = iv x4585 := by have hv4583 : [v4582] = [iv x4585] := hv4583; injection hv4583
   refine Es 3 rfl (st_mlook (ok := false) rfl rfl (fun w ho => hr4584 _ w ho (.cons _ (.cons _ (.cons _ (.cons _ (.cons _ (.cons _ (.cons _ (.cons _ (.cons _ (.cons _ (ss s (ss j (ss a (List.sublist_append_left _ _)))))))))))))) false))<|E0 4 rfl (eT rfl rfl hc4588)<|E0 5 rfl (sM rfl)<|En 6 48 rfl rfl rfl<|En 7 48 rfl rfl rfl<|En 8 48 rfl rfl rfl<|En 9 48 rfl rfl rfl<|En 10 48 rfl rfl rfl<|En 11 48 rfl rfl rfl<|En 12 48 rfl rfl rfl ?_
   refine En 13 48 rfl rfl rfl<|En 14 48 rfl rfl rfl<|E0 15 rfl (pT rfl rfl)<|Eo<|Dd (by kernel_rfl) ?_
   obtain rfl := o1 hm
   refine Xp 9 rfl<|Xp 9 rfl<|Xp 9 rfl<|Xp 9 rfl<|Xp 9 rfl<|Xp 9 rfl<|Xp 9 rfl<|Xp 9 rfl<|Xp 9 rfl<|Xp 9 rfl ?_
   refine x_front7 [_, _, _, _, _, _, _, _, _, _] s j a c d f g R rfl<|x_front7 [_, _, _, _, _, _, _, _, _, _] g s j a c d f R rfl<|x_front7 [_, _, _, _, _, _, _, _, _, _] f g s j a c d R rfl<|x_front7 [_, _, _, _, _, _, _, _, _, _] d f g s j a c R rfl<|x_front7 [_, _, _, _, _, _, _, _, _, _] c d f g s j a R rfl<|x_front7 [_, _, _, _, _, _, _, _, _, _] a c d f g s j R rfl<|x_front7 [_, _, _, _, _, _, _, _, _, _] j a c d f g s R rfl ?_
   exact xJ ⟨rfl, rfl, lr⟩ (.refl _)
   rw [if_neg hc4588] at hm
   obtain ⟨x4589, h4590, hm⟩ := bS hm
   obtain ⟨x4602, h4604, hm⟩ := bS hm
   refine Di mixed (.refl _)<|E0 0 rfl (sM rfl)<|Es 1 rfl (sL 2 rfl one77 rfl rfl)<|E0 2 rfl (sM rfl) ?_
   have hx4586 := Option.some.inj h4587
   obtain ⟨v4582, hv4583, hr4584⟩ := OM.lookF kok3 (z0 := 0) (h29.le (F.trans S)) (key := iv x) (k := x) rfl mapt77 zero3 rfl
   rw [hx4586] at hv4583
   obtain rfl : v4582 = iv x4585 := by have hv4583 : [v4582] = [iv x4585] := hv4583; injection hv4583
   refine Es 3 rfl (st_mlook (ok := false) rfl rfl (fun w ho => hr4584 _ w ho (.cons _ (.cons _ (.cons _ (.cons _ (.cons _ (.cons _ (.cons _ (.cons _ (.cons _ (.cons _ (ss s (ss j (ss a (List.sublist_append_left _ _)))))))))))))) false))<|E0 4 rfl (eF rfl rfl hc4588)<|E0 5 rfl (sM rfl)<|Ey 6 48 rfl (sL 3 rfl one76 rfl rfl)<|Yz 7 48 rfl (sM rfl)<|Ey 8 48 rfl (sL 4 rfl one45 rfl rfl)<|Yz 9 48 rfl (sM rfl) ?_
   obtain ⟨j4591, hj4592, hx4593⟩ := iS h4590
   obtain ⟨cs4594, hr4595, hcs4596, hA4597, hlt4598⟩ := FZ.get (sz := 3) rfl (by decide) (h47.le (F.trans S)) hx4593
   obtain ⟨_, _, rfl, rfl, ⟨_, _, rfl, rfl, rfl⟩⟩ := hr4595
   refine Yz 10 48 rfl (sI j4591 rfl rfl hj4592 hlt4598 hA4597 sl45)<|Yz 11 48 rfl (sQ rfl hA4597 fld47_0)<|Ey 12 48 rfl (sO rfl one3 (hcs4596 0 _ rfl))<|Yz 13 48 rfl (sB (v := .agg #[iv ((O : Int)), iv x4589.Day]) [(0, iv ((O : Int))), (1, iv x4589.Day)] rfl (fun _ => by kernel_rfl)) ?_
   have hx4603 := Option.some.inj h4604
   obtain ⟨v4599, hv4600, hr4601⟩ := OM.lookF kok54 (z0 := false) (h33.le (F.trans S)) (key := .agg #[iv ((O : Int)), iv x4589.Day]) (k := (⟨(O : Int), x4589.Day⟩ : FleetAbsence)) ⟨[iv ((O : Int)), iv x4589.Day], rfl, ⟨[iv ((O : Int))], _, rfl, rfl, rfl⟩⟩ mapt76 zero4 rfl
   rw [hx4603] at hv4600
   obtain rfl : v4599 = bv x4602 := by have hv4600 : [v4599] = [bv x4602] := hv4600; injection hv4600
   refine Ey 14 48 rfl (st_mlook (ok := false) rfl rfl (fun w ho => hr4601 _ w ho (.cons _ (.cons _ (.cons _ (.cons _ (.cons _ (.cons _ (.cons _ (.cons _ (.cons _ (.cons _ (ss s (ss j (ss a (ss c (List.sublist_append_left _ _))))))))))))))) false))<|E0 15 rfl (pF rfl rfl)<|Eo<|Dd (by kernel_rfl) ?_
   obtain rfl := o1 hm
   refine Xp 9 rfl<|Xp 9 rfl<|Xp 9 rfl<|Xp 9 rfl<|Xp 9 rfl<|Xp 9 rfl<|Xp 9 rfl<|Xp 9 rfl<|Xp 9 rfl<|Xp 9 rfl ?_
   refine x_front7 [_, _, _, _, _, _, _, _, _, _] s j a c d f g R rfl<|x_front7 [_, _, _, _, _, _, _, _, _, _] g s j a c d f R rfl<|x_front7 [_, _, _, _, _, _, _, _, _, _] f g s j a c d R rfl<|x_front7 [_, _, _, _, _, _, _, _, _, _] d f g s j a c R rfl<|x_front7 [_, _, _, _, _, _, _, _, _, _] c d f g s j a R rfl<|x_front7 [_, _, _, _, _, _, _, _, _, _] a c d f g s j R rfl<|x_front7 [_, _, _, _, _, _, _, _, _, _] j a c d f g s R rfl ?_
   exact xJ ⟨rfl, rfl, lr⟩ (.refl _)
   rintro b4555 _ _ ⟨rfl, rfl, J⟩
   have hm := hk4558
   refine Cc _ rfl (fun hc4605 => ?_) (fun hc4605 => ?_)
   rw [if_pos hc4605] at hm
   refine Ce<|Xe<|Xo<|Xn<|Cg<|Ts rfl (sa rfl rfl (by omega))<|M rfl rfl<|Tn<|Xp 9 rfl<|Xp 9 rfl ?_
   refine Xp 9 rfl<|Xp 9 rfl<|Xp 9 rfl<|Xp 9 rfl<|Xp 9 rfl<|Xp 9 rfl<|Xp 9 rfl<|Xp 9 rfl<|x_front7 [_, _, _, _, _, _, _, _, _, _] s j a c d f g R rfl<|x_front7 [_, _, _, _, _, _, _, _, _, _] g s j a c d f R rfl ?_
   refine x_front7 [_, _, _, _, _, _, _, _, _, _] f g s j a c d R rfl<|x_front7 [_, _, _, _, _, _, _, _, _, _] d f g s j a c R rfl<|x_front7 [_, _, _, _, _, _, _, _, _, _] c d f g s j a R rfl<|x_front7 [_, _, _, _, _, _, _, _, _, _] a c d f g s j R rfl<|x_front7 [_, _, _, _, _, _, _, _, _, _] j a c d f g s R rfl ?_
   obtain rfl := o1 hm
   exact xS ⟨s, A4466, c4467, j, A4471, c4472, f, A4476, c4477, g, rfl, rfl, ((S.trans J)), (h4463.le J), hln4480, hnz4481, (h4468.le J), (h4473.le J), hnz4484, (h4478.le J)⟩ (.refl _)
   rw [if_neg (fun hh => Bool.noConfusion (hh.symm.trans hc4605))] at hm
   refine Ck<|Xn ?_
   obtain ⟨l4705, hj4708, hk4708⟩ := bS hm
   refine Cj (fun b4700 e' hp' => ∃ (V : Hp), [(0, iv al), (2, pb y), (5, pb z), (6, pb A), (7, pb B), (8, pb C), (9, pb D), (10, pb E), (12, iv x), (13, iv ((O : Int))), (14, sv A4505 x4489 c4506), (36, sv t l4705 u), (37, iv ((K.length : Int))), (38, iv ((O : Int)))] = e' ∧ (y, Cl 42 [sv A4466 l4482 c4467]) :: (z, Cl 23 [sv t l4705 u]) :: (A, Cl 77 [.map (some ai)]) :: (B, Cl 76 [.map (some aj)]) :: (C, Cl 45 [sv ad T ae]) :: (D, Cl 27 [iv W, iv X, iv Y, iv Z, iv aa, iv ab, iv ac]) :: (E, Cl 70 [.func (.func 31) #[] #[pb G, pb y, pb H, pb I, pb z, pb A, pb B, pb C, pb D, pb E]]) :: (G, Cl 23 [sv A4471 l4483 c4472]) :: (H, Cl 42 [sv A4476 l4485 c4477]) :: (I, Cl 42 [sv ag U ah]) :: (V ++ (j ++ (a ++ (c ++ (d ++ (f ++ (g ++ R))))))) = hp' ∧ b4555.Le b4700 ∧ OS 42 (OT.fr (RT.own1 L 3 rI)) b4700.w (sv t l4705 u) l4705 V ∧ l4705.length = K.length ∧ (t = none ↔ l4705 = [])) ?_ ?_
   have hm := hj4708
   obtain ⟨af, hcl4757, hm⟩ := bS hm
   obtain ⟨_, h4765, hm⟩ := bS hm
   obtain ⟨x4770, h4771, hm⟩ := bS hm
   refine Di mixed (.refl _)<|Es 0 rfl (sL 1 rfl one23 rfl rfl)<|E0 1 rfl (sM rfl)<|E0 2 rfl (sM rfl)<|E0 4 rfl (sM rfl)<|Eo<|Da [3, 5] (by kernel_rfl) rfl ?_
   refine Rg lr rfl rfl _ call27 rfl (cSlicesClone _ _ x4489 A4505 c4506 (h4507.le J) af hcl4757) ?_ ?_
   rintro _ b4758 _ hle4759 ⟨A4760, c4761, hs4762, rfl, rfl, h4763⟩
   refine ⟨.inr (ss hs4762 (.refl _)), ?_⟩
   refine d_in1 [] [_, _, _, _, _, _, _, _, _, _] hs4762 (s ++ (j ++ (a ++ (c ++ (d ++ (f ++ (g ++ R))))))) rfl<|Da [5] (by kernel_rfl) rfl ?_
   refine Rd2 hle4759 rfl rfl (u_bslice (el := 3) [(0, iv x)] [iv x] rfl (fun _ => by kernel_rfl)) ?_ ?_
   rintro _ _ ⟨g4764, rfl, rfl⟩
   refine ⟨.inr (.cons _ (.cons_cons _ (.cons_cons _ (.cons_cons _ (.cons_cons _ (.cons_cons _ (.cons_cons _ (.cons_cons _ (.cons_cons _ (.cons_cons _ (.cons_cons _ (ss hs4762 (.refl _))))))))))))), ?_⟩
   have h4765 := room_some h4765
   refine Da [6] (by kernel_rfl) rfl ?_
   refine Rd2 hle4759 rfl rfl (uQ (r := rI) (l := af) [_, _, _, _, _, _, _, _, _, _, _] (s ++ (j ++ (a ++ (c ++ (d ++ (f ++ (g ++ R))))))) [[iv x]] [x] rfl (by decide) sl42 inf3 rfl rfl rfl rfl h4763 rfl (fun w ho => Rd.own (i := 0) ho rfl) ⟨rfl, trivial⟩ h4765) ?_ ?_
   rintro _ _ ⟨hs4766, rfl, h4767⟩
   obtain ⟨A4768, c4769, rfl, _⟩ := h4767.form
   refine ⟨.inr (.cons _ (.cons_cons _ (.cons_cons _ (.cons_cons _ (.cons_cons _ (.cons_cons _ (.cons_cons _ (.cons_cons _ (.cons_cons _ (.cons_cons _ (.cons_cons _ (ss hs4766 (.refl _))))))))))))), ?_⟩
   obtain ⟨j4772, hj4773, hx4774⟩ := iS h4771
   obtain ⟨cs4775, hs4780, P4781, P4782, hq4783, hr4776, hcs4777, hA4778, hlt4779, hb4784, hho4785⟩ := OS.get (sz := 1) rfl (by decide) (h4463.le J) hx4774
   obtain ⟨⟨A4786, c4787, rfl, h4788, h4789⟩, rfl⟩ := hr4776
   refine Ei hle4759 (.cons _ (.cons_cons _ (.cons_cons _ (.cons_cons _ (.cons_cons _ (.cons_cons _ (.cons_cons _ (.cons_cons _ (.cons_cons _ (.cons_cons _ (.cons_cons _ (ss hs4766 (.refl _)))))))))))))<|E0 7 rfl (sI j4772 rfl rfl hj4773 hlt4779 hA4778 sl23)<|Eo<|d_unk [_, _, _, _, _, _, _, _, _, _, _] hs4766 (s ++ (j ++ (a ++ (c ++ (d ++ (f ++ (g ++ R))))))) rfl ?_
   intro hu4792
   have hnz4793 : (A4768 = none ↔ af ++ [x] = []) := (OS.nz h4767 (by simp))
   refine d_frz [_, _, _, _, _, _, _, _, _, _, _] hs4766 (s ++ (j ++ (a ++ (c ++ (d ++ (f ++ (g ++ R))))))) rfl ?_
   intro b4794 hle4795 hz4796
   have h4797 := OS.frz (l := af ++ [x]) h4767 hle4795.cells hz4796
   have h4798 : Own1 L 3 rI b4794.w A4768 c4769 (af ++ [x]) := own1_of (by decide) h4767 hle4795.cells hz4796 hu4792 (hb0.trans (F.trans (S.trans (J.trans hle4759)))) (fun e => absurd e (by simp))
   refine Da [8] (by kernel_rfl) rfl ?_
   refine Rd2 (hle4759.trans hle4795) rfl rfl (uP hj4773 (sz := 1) (a' := af ++ [x]) rfl [_, _, _, _, _, _, _, _, _, _, _] (j ++ (a ++ (c ++ (d ++ (f ++ (g ++ R)))))) 0 1 [.slice A4768 (af ++ [x]).length c4769] rfl (h4463.le (J.trans (hle4759.trans hle4795))) hx4774 rfl rfl rfl siz42 rfl (mc rfl mn) (fun cs hsj hh => by obtain ⟨⟨A4799, c4800, rfl, h4801, h4802⟩, rfl⟩ := hh; exact ⟨by first | decide | exact Nat.le_refl _, (RT.own1_mk h4797 h4798), rfl⟩)) ?_ ?_
   rintro _ _ ⟨ak, rfl, h4791⟩
   refine ⟨.inl (by kernel_rfl), ?_⟩
   refine d_resp 36 rfl (v' := .slice t (put ao (O : Int) (af ++ [x])).length u) (by simp only [put_length])<|d_hresp 2 rfl (o' := Cl 23 [.slice t (put ao (O : Int) (af ++ [x])).length u]) (by simp only [put_length])<|Dd (by kernel_rfl) ?_
   obtain rfl := o1 hm
   refine Xp 10 rfl<|Xp 10 rfl<|Xp 10 rfl<|Xp 10 rfl<|Xp 10 rfl<|Xp 10 rfl<|Xp 10 rfl<|Xp 10 rfl<|Xp 10 rfl<|Xp 10 rfl ?_
   refine x_front7 [_, _, _, _, _, _, _, _, _, _, _] ak j a c d f g R rfl<|x_front7 [_, _, _, _, _, _, _, _, _, _, _] g ak j a c d f R rfl<|x_front7 [_, _, _, _, _, _, _, _, _, _, _] f g ak j a c d R rfl<|x_front7 [_, _, _, _, _, _, _, _, _, _, _] d f g ak j a c R rfl<|x_front7 [_, _, _, _, _, _, _, _, _, _, _] c d f g ak j a R rfl<|x_front7 [_, _, _, _, _, _, _, _, _, _, _] a c d f g ak j R rfl<|x_front7 [_, _, _, _, _, _, _, _, _, _, _] j a c d f g ak R rfl ?_
   exact xJ ⟨ak, rfl, rfl, (hle4759.trans hle4795), h4791, ((put_length _ _ _).trans hln4480), (put_nz hnz4481)⟩ (.cons_cons _ (.cons_cons _ (.cons_cons _ (.cons_cons _ (.cons_cons _ (.cons_cons _ (.cons_cons _ (.cons_cons _ (.cons_cons _ (.cons_cons _ (.cons _ (.refl _))))))))))))
   exact Rn
   exact Rn
   exact Rn
   refine Rd2 lr rfl rfl (u_bslice (el := 3) [(0, iv x)] [iv x] rfl (fun _ => by kernel_rfl)) ?_ ?_
   rintro _ _ ⟨g4764, rfl, rfl⟩
   refine ⟨.inr (.cons _ (.refl _)), ?_⟩
   refine Da [3] (by kernel_rfl) rfl ?_
   refine Rg lr rfl rfl _ call27 rfl (cSlicesClone _ _ x4489 A4505 c4506 (h4507.le J) af hcl4757) ?_ ?_
   rintro _ b4758 _ hle4759 ⟨A4760, c4761, hs4762, rfl, rfl, h4763⟩
   refine ⟨.inr (ss hs4762 (.cons _ (.refl _))), ?_⟩
   refine d_in1 [] [_, _, _, _, _, _, _, _, _, _, _] hs4762 (s ++ (j ++ (a ++ (c ++ (d ++ (f ++ (g ++ R))))))) rfl ?_
   have h4765 := room_some h4765
   refine Da [6] (by kernel_rfl) rfl ?_
   refine Rd2 hle4759 rfl rfl (uQ (r := rI) (l := af) [_, _, _, _, _, _, _, _, _, _, _] (s ++ (j ++ (a ++ (c ++ (d ++ (f ++ (g ++ R))))))) [[iv x]] [x] rfl (by decide) sl42 inf3 rfl rfl rfl rfl h4763 rfl (fun w ho => Rd.own (i := 0) ho rfl) ⟨rfl, trivial⟩ h4765) ?_ ?_
   rintro _ _ ⟨hs4766, rfl, h4767⟩
   obtain ⟨A4768, c4769, rfl, _⟩ := h4767.form
   refine ⟨.inr (.cons _ (.cons_cons _ (.cons_cons _ (.cons_cons _ (.cons_cons _ (.cons_cons _ (.cons_cons _ (.cons_cons _ (.cons_cons _ (.cons_cons _ (.cons_cons _ (ss hs4766 (.refl _))))))))))))), ?_⟩
   obtain ⟨j4772, hj4773, hx4774⟩ := iS h4771
   obtain ⟨cs4775, hs4780, P4781, P4782, hq4783, hr4776, hcs4777, hA4778, hlt4779, hb4784, hho4785⟩ := OS.get (sz := 1) rfl (by decide) (h4463.le J) hx4774
   obtain ⟨⟨A4786, c4787, rfl, h4788, h4789⟩, rfl⟩ := hr4776
   refine Ei hle4759 (.cons _ (.cons_cons _ (.cons_cons _ (.cons_cons _ (.cons_cons _ (.cons_cons _ (.cons_cons _ (.cons_cons _ (.cons_cons _ (.cons_cons _ (.cons_cons _ (ss hs4766 (.refl _)))))))))))))<|E0 7 rfl (sI j4772 rfl rfl hj4773 hlt4779 hA4778 sl23)<|Eo<|d_unk [_, _, _, _, _, _, _, _, _, _, _] hs4766 (s ++ (j ++ (a ++ (c ++ (d ++ (f ++ (g ++ R))))))) rfl ?_
   intro hu4792
   have hnz4793 : (A4768 = none ↔ af ++ [x] = []) := (OS.nz h4767 (by simp))
   refine d_frz [_, _, _, _, _, _, _, _, _, _, _] hs4766 (s ++ (j ++ (a ++ (c ++ (d ++ (f ++ (g ++ R))))))) rfl ?_
   intro b4794 hle4795 hz4796
   have h4797 := OS.frz (l := af ++ [x]) h4767 hle4795.cells hz4796
   have h4798 : Own1 L 3 rI b4794.w A4768 c4769 (af ++ [x]) := own1_of (by decide) h4767 hle4795.cells hz4796 hu4792 (hb0.trans (F.trans (S.trans (J.trans hle4759)))) (fun e => absurd e (by simp))
   refine Da [8] (by kernel_rfl) rfl ?_
   refine Rd2 (hle4759.trans hle4795) rfl rfl (uP hj4773 (sz := 1) (a' := af ++ [x]) rfl [_, _, _, _, _, _, _, _, _, _, _] (j ++ (a ++ (c ++ (d ++ (f ++ (g ++ R)))))) 0 1 [.slice A4768 (af ++ [x]).length c4769] rfl (h4463.le (J.trans (hle4759.trans hle4795))) hx4774 rfl rfl rfl siz42 rfl (mc rfl mn) (fun cs hsj hh => by obtain ⟨⟨A4799, c4800, rfl, h4801, h4802⟩, rfl⟩ := hh; exact ⟨by first | decide | exact Nat.le_refl _, (RT.own1_mk h4797 h4798), rfl⟩)) ?_ ?_
   rintro _ _ ⟨ak, rfl, h4791⟩
   refine ⟨.inl (by kernel_rfl), ?_⟩
   refine d_resp 36 rfl (v' := .slice t (put ao (O : Int) (af ++ [x])).length u) (by simp only [put_length])<|d_hresp 2 rfl (o' := Cl 23 [.slice t (put ao (O : Int) (af ++ [x])).length u]) (by simp only [put_length])<|Dd (by kernel_rfl) ?_
   obtain rfl := o1 hm
   refine Xp 10 rfl<|Xp 10 rfl<|Xp 10 rfl<|Xp 10 rfl<|Xp 10 rfl<|Xp 10 rfl<|Xp 10 rfl<|Xp 10 rfl<|Xp 10 rfl<|Xp 10 rfl ?_
   refine x_front7 [_, _, _, _, _, _, _, _, _, _, _] ak j a c d f g R rfl<|x_front7 [_, _, _, _, _, _, _, _, _, _, _] g ak j a c d f R rfl<|x_front7 [_, _, _, _, _, _, _, _, _, _, _] f g ak j a c d R rfl<|x_front7 [_, _, _, _, _, _, _, _, _, _, _] d f g ak j a c R rfl<|x_front7 [_, _, _, _, _, _, _, _, _, _, _] c d f g ak j a R rfl<|x_front7 [_, _, _, _, _, _, _, _, _, _, _] a c d f g ak j R rfl<|x_front7 [_, _, _, _, _, _, _, _, _, _, _] j a c d f g ak R rfl ?_
   exact xJ ⟨ak, rfl, rfl, (hle4759.trans hle4795), h4791, ((put_length _ _ _).trans hln4480), (put_nz hnz4481)⟩ (.cons_cons _ (.cons_cons _ (.cons_cons _ (.cons_cons _ (.cons_cons _ (.cons_cons _ (.cons_cons _ (.cons_cons _ (.cons_cons _ (.cons_cons _ (.cons _ (.refl _))))))))))))
   exact Rn
   exact Rn
   exact Rn
   exact Rn
   rintro b4700 _ _ ⟨V, rfl, rfl, aq, h4704, hln4706, hnz4707⟩
   have hm := hk4708
   obtain ⟨⟨l4893, l4896, l4897, l4899⟩, hj4900, hk4900⟩ := bS hm
   refine Cj (fun b4873 e' hp' => ∃ (hs4876 : Hp), ∃ (A4880 : OA), ∃ (c4881 : Nat), ∃ (hs4879 : Hp), ∃ (A4885 : OA), ∃ (c4886 : Nat), ∃ (hs4884 : Hp), ∃ (A4890 : OA), ∃ (c4891 : Nat), ∃ (hs4889 : Hp), [(0, iv al), (2, pb y), (5, pb z), (6, pb A), (7, pb B), (8, pb C), (9, pb D), (10, pb E), (12, iv x), (13, iv ((O : Int))), (14, sv A4505 x4489 c4506), (36, sv t l4893 u), (37, iv ((K.length : Int))), (38, iv ((O : Int)))] = e' ∧ (y, Cl 42 [sv A4880 l4896 c4881]) :: (z, Cl 23 [sv t l4893 u]) :: (A, Cl 77 [.map (some ai)]) :: (B, Cl 76 [.map (some aj)]) :: (C, Cl 45 [sv ad T ae]) :: (D, Cl 27 [iv W, iv X, iv Y, iv Z, iv aa, iv ab, iv ac]) :: (E, Cl 70 [.func (.func 31) #[] #[pb G, pb y, pb H, pb I, pb z, pb A, pb B, pb C, pb D, pb E]]) :: (G, Cl 23 [sv A4885 l4897 c4886]) :: (H, Cl 42 [sv A4890 l4899 c4891]) :: (I, Cl 42 [sv ag U ah]) :: (hs4876 ++ (hs4879 ++ (a ++ (c ++ (d ++ (hs4884 ++ (hs4889 ++ R))))))) = hp' ∧ b4700.Le b4873 ∧ OS 42 (OT.fr (RT.own1 L 3 rI)) b4873.w (sv t l4893 u) l4893 hs4876 ∧ l4893.length = K.length ∧ (t = none ↔ l4893 = []) ∧ OS 3 (OT.fr rI) b4873.w (sv A4880 l4896 c4881) l4896 hs4879 ∧ OS 42 (OT.fr (RT.own1 L 3 rI)) b4873.w (sv A4885 l4897 c4886) l4897 hs4884 ∧ (A4885 = none ↔ l4897 = []) ∧ OS 3 (OT.fr rI) b4873.w (sv A4890 l4899 c4891) l4899 hs4889) ?_ ?_
   have hm := hj4900
   refine Cs ?_
   obtain ⟨x4923, h4924, hm⟩ := bS hm
   obtain ⟨x4943, hcl4944, hm⟩ := bS hm
   refine Di mixed (.refl _)<|Es 0 rfl (sL 4 rfl one45 rfl rfl)<|Es 1 rfl (sL 1 rfl one23 rfl rfl)<|E0 2 rfl (sM rfl) ?_
   obtain ⟨j4925, hj4926, hx4927⟩ := iS h4924
   obtain ⟨cs4928, hs4933, P4934, P4935, hq4936, hr4929, hcs4930, hA4931, hlt4932, hb4937, hho4938⟩ := OS.get (sz := 1) rfl (by decide) h4704 hx4927
   obtain ⟨⟨A4939, c4940, rfl, h4941, h4942⟩, rfl⟩ := hr4929
   refine E0 3 rfl (sI j4925 rfl rfl hj4926 hlt4932 hA4931 sl23)<|Es 4 rfl (st_load_rd rfl one42 (fun w ho => hcs4930 w _ ho (.cons _ (.cons _ (.cons _ (.cons _ (.cons _ (.cons _ (.cons _ (.cons _ (.cons _ (.cons _ (List.sublist_append_left _ _))))))))))) 0 _ rfl))<|Es 5 rfl (sD (vs := [_, _, _, _, _, _, _]) 5 7 rfl agg27 rfl rfl rfl)<|Eo<|Da [6] (by kernel_rfl) rfl ?_
   refine Rd2 lr rfl rfl (uW _ call28 rfl (fun w ho => cFleetFits _ [] T x4923 (⟨W, X, Y, Z, aa, ab, ac⟩ : FleetLimits) ad ae A4939 c4940 ((h47.le (F.trans (S.trans (J.trans aq)))).old ho) (h4941.old ho) x4943 hcl4944) (fun _ _ _ h => h.2.symm)) ?_ ?_
   rintro _ _ ⟨⟨_, rfl, _⟩, rfl⟩
   refine ⟨.inr (.refl _), ?_⟩
   refine Dd (by kernel_rfl)<|Xn ?_
   refine Cc _ rfl (fun hc4945 => ?_) (fun hc4945 => ?_)
   rw [if_pos hc4945] at hm
   refine Cg<|Ts rfl (sL 6 rfl one70 rfl rfl)<|M rfl rfl ?_
   obtain ⟨_, h4946, hm⟩ := bS hm
   have h4946 := (kS h4946).2
   refine Ts rfl (sa rfl rfl h4946) ?_
   obtain ⟨⟨l4947, l4948, l4949, l4950⟩, hcl4951, hm⟩ := bS hm
   have hm := (unc4E hm)
   refine t_pullb 6 rfl<|t_pullb 6 rfl<|t_pullb 6 rfl<|t_pullb 6 rfl<|t_pullb 6 rfl<|t_pullb 6 rfl<|t_pullb 9 rfl<|t_pullb 9 rfl<|t_pullb 8 rfl<|t_pullb 9 rfl ?_
   refine t_front5 [_, _, _, _, _, _, _, _, _, _] V j a c d (f ++ (g ++ R)) rfl<|t_front5 [_, _, _, _, _, _, _, _, _, _] d V j a c (f ++ (g ++ R)) rfl<|t_front3 [_, _, _, _, _, _, _, _, _, _] c d V (j ++ (a ++ (f ++ (g ++ R)))) rfl<|t_front5 [_, _, _, _, _, _, _, _, _, _] V c d j a (f ++ (g ++ R)) rfl<|t_front7 [_, _, _, _, _, _, _, _, _, _] a V c d j f g R rfl<|t_front6 [_, _, _, _, _, _, _, _, _, _] g a V c d j (f ++ R) rfl<|t_front7 [_, _, _, _, _, _, _, _, _, _] j g a V c d f R rfl<|t_out7 [_, _, _, _, _, _, _, _, _, _] [] f j g a V c d R rfl<|Tv #[] #[pb G, pb y, pb H, pb I, pb z, pb A, pb B, pb C, pb D, pb E] [iv (al + 1)] rfl rfl call31 rfl (ih _ _ L (hb0.trans (F.trans (S.trans (J.trans aq)))) (al + 1) T W X Y Z aa ab ac l4483 l4482 l4485 U l4705 l63 l64 G y H I z A B C D E ad ae A4471 c4472 f A4466 c4467 j A4476 c4477 g ag ah a t u V ai c aj d (h47.le (F.trans (S.trans (J.trans aq)))) (h4473.le (J.trans aq)) hnz4484 (h4468.le (J.trans aq)) (h4478.le (J.trans aq)) (h20.le (F.trans (S.trans (J.trans aq)))) h4704 hnz4707 (h29.le (F.trans (S.trans (J.trans aq)))) (h33.le (F.trans (S.trans (J.trans aq)))) l4947 l4948 l4949 l4950 hcl4951) ?_
   rintro _ b4952 _ hle4953 ⟨A4954, c4955, hs4956, hs4957, A4958, c4959, hs4960, A4961, c4962, hs4963, rfl, rfl, h4964, h4965, h4966, h4967, h4968, h4969, h4970⟩
   refine t_in7 [_, _, _, _, _, _, _, _, _, _] [] hs4956 a hs4957 c d hs4960 hs4963 R rfl<|Tr 36 rfl (v' := sv t l4948 u) (by show Value.slice _ _ _ = Value.slice _ _ _; rw [h4966])<|t_hresp 4 rfl (o' := Cl 23 [sv t l4948 u]) (by simp only [sv, h4966])<|Tn ?_
   obtain ⟨rfl, rfl, rfl, rfl⟩ := some4 hm
   refine Xp 3 rfl<|Xp 3 rfl<|Xp 2 rfl<|Xp 9 rfl<|Xp 9 rfl<|Xp 9 rfl<|Xp 9 rfl<|Xp 9 rfl<|Xp 9 rfl<|Xp 9 rfl ?_
   refine x_front7 [_, _, _, _, _, _, _, _, _, _] hs4956 a hs4957 c d hs4960 hs4963 R rfl<|x_front7 [_, _, _, _, _, _, _, _, _, _] hs4963 hs4956 a hs4957 c d hs4960 R rfl<|x_front7 [_, _, _, _, _, _, _, _, _, _] hs4960 hs4963 hs4956 a hs4957 c d R rfl<|x_front7 [_, _, _, _, _, _, _, _, _, _] d hs4960 hs4963 hs4956 a hs4957 c R rfl<|X6 [_, _, _, _, _, _, _, _, _, _] c d hs4960 hs4963 hs4956 a (hs4957 ++ R) rfl<|X6 [_, _, _, _, _, _, _, _, _, _] a c d hs4960 hs4963 hs4956 (hs4957 ++ R) rfl<|x_front7 [_, _, _, _, _, _, _, _, _, _] hs4956 a c d hs4960 hs4963 hs4957 R rfl ?_
   exact xJ ⟨hs4957, A4954, c4955, hs4956, A4958, c4959, hs4960, A4961, c4962, hs4963, rfl, rfl, hle4953, h4965, (h4966.trans hln4706), h4967, h4964, h4968, h4969, h4970⟩ (.refl _)
   rw [if_neg (fun hh => Bool.noConfusion (hh.symm.trans hc4945))] at hm
   refine Ck ?_
   obtain ⟨rfl, rfl, rfl, rfl⟩ := some4 hm
   refine Xp 9 rfl<|Xp 9 rfl<|Xp 9 rfl<|Xp 9 rfl<|Xp 9 rfl<|Xp 9 rfl<|Xp 9 rfl<|Xp 9 rfl<|Xp 9 rfl<|Xp 9 rfl ?_
   refine x_front7 [_, _, _, _, _, _, _, _, _, _] V j a c d f g R rfl<|x_front7 [_, _, _, _, _, _, _, _, _, _] g V j a c d f R rfl<|x_front7 [_, _, _, _, _, _, _, _, _, _] f g V j a c d R rfl<|x_front7 [_, _, _, _, _, _, _, _, _, _] d f g V j a c R rfl<|x_front7 [_, _, _, _, _, _, _, _, _, _] c d f g V j a R rfl<|x_front7 [_, _, _, _, _, _, _, _, _, _] a c d f g V j R rfl<|x_front7 [_, _, _, _, _, _, _, _, _, _] j a c d f g V R rfl ?_
   exact xJ ⟨V, A4466, c4467, j, A4471, c4472, f, A4476, c4477, g, rfl, rfl, lr, h4704, hln4706, hnz4707, (h4468.le (J.trans aq)), (h4473.le (J.trans aq)), hnz4484, (h4478.le (J.trans aq))⟩ (.refl _)
   exact Rn
   rintro b4873 _ _ ⟨hs4876, A4880, c4881, hs4879, A4885, c4886, hs4884, A4890, c4891, hs4889, rfl, rfl, hle4874, h4877, hln4894, hnz4895, h4882, h4887, hnz4898, h4892⟩
   have hm := (unc4E hk4900)
   refine Cg<|Ts rfl (sL 1 rfl one23 rfl rfl)<|M rfl rfl<|M rfl rfl ?_
   obtain ⟨x4971, h4972, hm⟩ := bS hm
   obtain ⟨j4973, hj4974, hx4975⟩ := iS h4972
   obtain ⟨cs4976, hs4981, P4982, P4983, hq4984, hr4977, hcs4978, hA4979, hlt4980, hb4985, hho4986⟩ := OS.get (sz := 1) rfl (by decide) h4877 hx4975
   obtain ⟨⟨A4987, c4988, rfl, h4989, h4990⟩, rfl⟩ := hr4977
   refine Ts rfl (sI j4973 rfl rfl hj4974 hlt4980 hA4979 sl23)<|Do rfl (uP hj4974 (sz := 1) (a' := x4489) rfl [_, _, _, _, _, _, _, _, _, _] (hs4879 ++ (a ++ (c ++ (d ++ (hs4884 ++ (hs4889 ++ R)))))) 0 1 [sv A4505 x4489 c4506] rfl h4877 hx4975 rfl rfl rfl siz42 rfl (mc rfl mn) (fun cs hsj hh => by obtain ⟨⟨A4993, c4994, rfl, h4995, h4996⟩, rfl⟩ := hh; exact ⟨by first | decide | exact Nat.le_refl _, (RT.own1_mk (h4507.le (J.trans (aq.trans hle4874))) (Own1.mono h4508 (J.trans (aq.trans hle4874)).cells)), rfl⟩)) ?_
   rintro _ _ ⟨hs4991, rfl, h4992⟩
   refine Tr 36 rfl (v' := .slice t (put l4893 (O : Int) x4489).length u) (by simp only [put_length])<|t_hresp 1 rfl (o' := Cl 23 [.slice t (put l4893 (O : Int) x4489).length u]) (by simp only [put_length])<|Tn<|Xm<|Xn<|Cg<|Ts rfl (sa rfl rfl (by omega))<|M rfl rfl<|Tn<|Xp 9 rfl ?_
   refine Xp 9 rfl<|Xp 9 rfl<|Xp 9 rfl<|Xp 9 rfl<|Xp 9 rfl<|Xp 9 rfl<|Xp 9 rfl<|Xp 9 rfl<|Xp 9 rfl<|x_front7 [_, _, _, _, _, _, _, _, _, _] hs4991 hs4879 a c d hs4884 hs4889 R rfl ?_
   refine x_front7 [_, _, _, _, _, _, _, _, _, _] hs4889 hs4991 hs4879 a c d hs4884 R rfl<|x_front7 [_, _, _, _, _, _, _, _, _, _] hs4884 hs4889 hs4991 hs4879 a c d R rfl<|x_front7 [_, _, _, _, _, _, _, _, _, _] d hs4884 hs4889 hs4991 hs4879 a c R rfl<|x_front7 [_, _, _, _, _, _, _, _, _, _] c d hs4884 hs4889 hs4991 hs4879 a R rfl<|x_front7 [_, _, _, _, _, _, _, _, _, _] a c d hs4884 hs4889 hs4991 hs4879 R rfl<|x_front7 [_, _, _, _, _, _, _, _, _, _] hs4879 a c d hs4884 hs4889 hs4991 R rfl ?_
   obtain rfl := o1 hm
   exact xS ⟨hs4991, A4880, c4881, hs4879, A4885, c4886, hs4884, A4890, c4891, hs4889, rfl, rfl, ((S.trans (J.trans (aq.trans hle4874)))), h4992, ((put_length _ _ _).trans hln4894), (put_nz hnz4895), h4882, h4887, hnz4898, h4892⟩ (.refl _)
   rintro b4459 _ _ ⟨s, A4466, c4467, j, A4471, c4472, f, A4476, c4477, g, rfl, rfl, S, h4463, hln4480, hnz4481, h4468, h4473, hnz4484, h4478⟩
   have hm := (unc4E hk4488)
   refine Cr<|Ts rfl (lF rfl rfl (by omega))<|Te<|Cs<|c_cond_f rfl<|Ce<|Xe<|Xe<|Xo<|Xn ?_
   refine Cr<|Ts rfl (sL 0 rfl one42 rfl rfl)<|M rfl rfl<|Do rfl (u_bslice (el := 3) [(0, iv x)] [iv x] rfl (fun _ => by kernel_rfl)) ?_
   rintro _ _ ⟨g4997, rfl, rfl⟩
   obtain ⟨_, h4998, hm⟩ := bS hm
   have h4998 := room_some h4998
   refine t_front2 [_, _, _, _, _, _, _, _, _, _, _] s j (a ++ (c ++ (d ++ (f ++ (g ++ R))))) rfl<|Do rfl (uQ (r := rI) (l := l4482) [_, _, _, _, _, _, _, _, _, _, _] (s ++ (a ++ (c ++ (d ++ (f ++ (g ++ R)))))) [[iv x]] [x] rfl (by decide) sl42 inf3 rfl rfl rfl rfl h4468 rfl (fun w ho => Rd.own (i := 0) ho rfl) ⟨rfl, trivial⟩ h4998) ?_
   rintro _ _ ⟨hs4999, rfl, h5000⟩
   obtain ⟨A5001, c5002, rfl, _⟩ := h5000.form
   refine Do rfl (uS 1 rfl rfl siz42 rfl rfl (by simp)) ?_
   rintro _ _ rfl
   refine Te<|Cr<|Ts rfl (sL 7 rfl one70 rfl rfl)<|M rfl rfl ?_
   obtain ⟨_, h5003, hm⟩ := bS hm
   have h5003 := (kS h5003).2
   refine Ts rfl (sa rfl rfl h5003) ?_
   obtain ⟨⟨l5004, l5005, l5006, l5007⟩, hcl5008, hm⟩ := bS hm
   have hm := (unc4E hm)
   refine t_pullb 7 rfl<|t_pullb 7 rfl<|t_pullb 7 rfl<|t_pullb 7 rfl<|t_pullb 7 rfl<|t_pullb 7 rfl<|t_pullb 10 rfl<|t_pullb 10 rfl<|t_pullb 9 rfl<|t_pullb 10 rfl ?_
   refine t_front5 [_, _, _, _, _, _, _, _, _, _, _] hs4999 s a c d (f ++ (g ++ R)) rfl<|t_front5 [_, _, _, _, _, _, _, _, _, _, _] d hs4999 s a c (f ++ (g ++ R)) rfl<|t_front4 [_, _, _, _, _, _, _, _, _, _, _] c d hs4999 s (a ++ (f ++ (g ++ R))) rfl<|t_front5 [_, _, _, _, _, _, _, _, _, _, _] s c d hs4999 a (f ++ (g ++ R)) rfl<|t_front7 [_, _, _, _, _, _, _, _, _, _, _] a s c d hs4999 f g R rfl<|t_front6 [_, _, _, _, _, _, _, _, _, _, _] g a s c d hs4999 (f ++ R) rfl<|t_front7 [_, _, _, _, _, _, _, _, _, _, _] hs4999 g a s c d f R rfl<|t_out7 [_, _, _, _, _, _, _, _, _, _] [_] f hs4999 g a s c d R rfl<|Tv #[] #[pb G, pb y, pb H, pb I, pb z, pb A, pb B, pb C, pb D, pb E] [iv (al + 1)] rfl rfl call31 rfl (ihmFleetStandIns_1_2 _ _ L (hb0.trans (F.trans S)) (al + 1) T W X Y Z aa ab ac l4483 (l4482 ++ [x]) l4485 U ao l63 l64 G y H I z A B C D E ad ae A4471 c4472 f A5001 c5002 hs4999 A4476 c4477 g ag ah a t u s ai c aj d (h47.le (F.trans S)) h4473 hnz4484 h5000 (OS.nz h5000 (by simp)) h4478 (h20.le (F.trans S)) h4463 hnz4481 (h29.le (F.trans S)) (h33.le (F.trans S)) l5004 l5005 l5006 l5007 hcl5008) ?_
   rintro _ b5009 _ hle5010 ⟨A5011, c5012, hs5013, hs5014, A5015, c5016, hs5017, A5018, c5019, hs5020, rfl, rfl, h5021, h5022, h5023, h5024, h5025, h5026, h5027⟩
   refine t_in7 [_, _, _, _, _, _, _, _, _, _] [_] hs5013 a hs5014 c d hs5017 hs5020 R rfl<|t_hresp 4 rfl (o' := Cl 23 [sv t l5005 u]) (by simp only [sv, h5023])<|Te<|Cg<|Ts rfl (sL 1 rfl one42 rfl rfl)<|Ts rfl (sL 1 rfl one42 rfl rfl)<|Ts rfl (sE rfl sl42) ?_
   obtain ⟨_, h5028, hm⟩ := bS hm
   have h5028 := (kS h5028).2
   refine Ts rfl (sb rfl rfl h5028) ?_
   obtain ⟨l5029, h5030, hm⟩ := bS hm
   obtain ⟨j5031, j5032, hj5033, hj5034, hj5035, hj5036, hx5037⟩ := cutS_some h5030
   have h5038 := OS.lc h5021
   refine Ts rfl (hx5037 ▸ st_part (l := l5004) j5031 j5032 rfl (.inl ⟨rfl, by omega⟩) (.inr ⟨_, _, _, rfl, rfl, hj5034⟩) hj5035 hj5036 h5038 sl42) ?_
   obtain ⟨hs5039, hq5040, h5041⟩ := OS.sub (sz := 1) rfl h5021 hj5035 hj5036
   rw [← hx5037] at h5041
   refine t_less [_, _, _, _, _, _, _, _, _, _, _] hs5013 hs5039 (a ++ (hs5014 ++ (c ++ (d ++ (hs5017 ++ (hs5020 ++ R)))))) rfl hq5040<|Do rfl (uS 1 rfl rfl siz42 rfl rfl (by simp)) ?_
   rintro _ _ rfl
   refine Tn ?_
   obtain ⟨rfl, rfl, rfl, rfl⟩ := some4 hm
   refine Xp 9 rfl<|Xp 9 rfl<|Xp 9 rfl<|Xp 9 rfl<|Xp 9 rfl<|Xp 9 rfl<|Xp 9 rfl<|Xp 9 rfl<|Xp 9 rfl<|Xp 9 rfl ?_
   refine x_front7 [_, _, _, _, _, _, _, _, _, _, _] hs5039 a hs5014 c d hs5017 hs5020 R rfl<|x_front7 [_, _, _, _, _, _, _, _, _, _, _] hs5020 hs5039 a hs5014 c d hs5017 R rfl<|x_front7 [_, _, _, _, _, _, _, _, _, _, _] hs5017 hs5020 hs5039 a hs5014 c d R rfl<|x_front7 [_, _, _, _, _, _, _, _, _, _, _] d hs5017 hs5020 hs5039 a hs5014 c R rfl<|x_front7 [_, _, _, _, _, _, _, _, _, _, _] c d hs5017 hs5020 hs5039 a hs5014 R rfl<|x_front7 [_, _, _, _, _, _, _, _, _, _, _] hs5014 c d hs5017 hs5020 hs5039 a R rfl<|x_front7 [_, _, _, _, _, _, _, _, _, _, _] a hs5014 c d hs5017 hs5020 hs5039 R rfl ?_
   exact endM (F.trans (S.trans hle5010)) rfl (.cons_cons _ (.cons_cons _ (.cons_cons _ (.cons_cons _ (.cons_cons _ (.cons_cons _ (.cons_cons _ (.cons_cons _ (.cons_cons _ (.cons_cons _ (.cons _ (.refl _)))))))))))) ⟨(subA A5011 c5012 j5031 1), (c5012 - j5031), hs5039, hs5014, A5015, c5016, hs5017, A5018, c5019, hs5020, rfl, rfl, h5041, h5022, (h5023.trans hln4480), h5024, h5025, h5026, h5027⟩

set_option maxHeartbeats 1000000 in
set_option maxRecDepth 20000 in
theorem cFleetStandIns_1_2 : ∀ (N : Nat) (b : Base) (R : Hp) (T : Base) (hb0 : T.Le b) (al : Int) (W : (List FleetShift)) (aa : Int) (ab : Int) (ac : Int) (ad : Int) (ae : Int) (af : Int) (ag : Int) (l56 : (List (List Int))) (ay : (List Int)) (l60 : (List Int)) (X : (List Int)) (O : (List (List Int))) (l64 : (List (Int × Int))) (l65 : (List (FleetAbsence × Bool))) (H : Nat) (z : Nat) (I : Nat) (J : Nat) (A : Nat) (B : Nat) (C : Nat) (D : Nat) (E : Nat) (F : Nat) (ah : OA) (ai : Nat) (A3 : OA) (c4 : Nat) (n : Hp) (A8 : OA) (c9 : Nat) (m : Hp) (A13 : OA) (c14 : Nat) (p : Hp) (am : OA) (an : Nat) (a : Hp) (t : OA) (y : Nat) (q : Hp) (ao : Nat) (c : Hp) (aq : Nat) (d : Hp) (h47 : FZ rFleetShift b.w ah ai W) (h5 : OS 42 (OT.fr (RT.own1 T 3 rI)) b.w (sv A3 l56 c4) l56 n) (hnz57 : (A3 = none ↔ l56 = [])) (h10 : OS 3 (OT.fr rI) b.w (sv A8 ay c9) ay m) (hnz59 : (A8 = none ↔ ay = [])) (h15 : OS 3 (OT.fr rI) b.w (sv A13 l60 c14) l60 p) (h20 : OS 3 (OT.fr rI) b.w (sv am X an) X a) (h25 : OS 42 (OT.fr (RT.own1 T 3 rI)) b.w (sv t O y) O q) (hnz63 : (t = none ↔ O = [])) (h29 : OM rI (OT.fr rI) false false b.w ao l64 c) (h33 : OM rFleetAbsence (OT.fr RT.bool) true false b.w aq l65 d) (l4887 : (List Int)) (l4888 : (List (List Int))) (l4891 : (List (List Int))) (l4893 : (List Int)) (hm : mFleetStandIns_1_2 N al W aa ab ac ad ae af ag l56 ay l60 X O l64 l65 = some (l4887, l4888, l4891, l4893)),
    CallsG Try.prog 31 [iv al, pb H, pb z, pb I, pb J, pb A, pb B, pb C, pb D, pb E, pb F] b ((H, Cl 23 [sv A3 l56 c4]) :: (z, Cl 42 [sv A8 ay c9]) :: (I, Cl 42 [sv A13 l60 c14]) :: (J, Cl 42 [sv am X an]) :: (A, Cl 23 [sv t O y]) :: (B, Cl 77 [.map (some ao)]) :: (C, Cl 76 [.map (some aq)]) :: (D, Cl 45 [sv ah W ai]) :: (E, Cl 27 [iv aa, iv ab, iv ac, iv ad, iv ae, iv af, iv ag]) :: (F, Cl 70 [.func (.func 31) #[] #[pb H, pb z, pb I, pb J, pb A, pb B, pb C, pb D, pb E, pb F]]) :: (n ++ (m ++ (p ++ (a ++ (q ++ (c ++ (d ++ R)))))))) (fun v b' hp' => ∃ (A4871 : OA), ∃ (c4872 : Nat), ∃ (hs4870 : Hp), ∃ (hs4875 : Hp), ∃ (A4879 : OA), ∃ (c4880 : Nat), ∃ (hs4878 : Hp), ∃ (A4884 : OA), ∃ (c4885 : Nat), ∃ (hs4883 : Hp), .tuple #[] = v ∧ (H, Cl 23 [sv A4879 l4891 c4880]) :: (z, Cl 42 [sv A4871 l4887 c4872]) :: (I, Cl 42 [sv A4884 l4893 c4885]) :: (J, Cl 42 [sv am X an]) :: (A, Cl 23 [sv t l4888 y]) :: (B, Cl 77 [.map (some ao)]) :: (C, Cl 76 [.map (some aq)]) :: (D, Cl 45 [sv ah W ai]) :: (E, Cl 27 [iv aa, iv ab, iv ac, iv ad, iv ae, iv af, iv ag]) :: (F, Cl 70 [.func (.func 31) #[] #[pb H, pb z, pb I, pb J, pb A, pb B, pb C, pb D, pb E, pb F]]) :: (hs4870 ++ (a ++ (hs4875 ++ (c ++ (d ++ (hs4878 ++ (hs4883 ++ R))))))) = hp' ∧ OS 3 (OT.fr rI) b'.w (sv A4871 l4887 c4872) l4887 hs4870 ∧ OS 42 (OT.fr (RT.own1 T 3 rI)) b'.w (sv t l4888 y) l4888 hs4875 ∧ l4888.length = O.length ∧ (t = none ↔ l4888 = []) ∧ OS 42 (OT.fr (RT.own1 T 3 rI)) b'.w (sv A4879 l4891 c4880) l4891 hs4878 ∧ (A4879 = none ↔ l4891 = []) ∧ OS 3 (OT.fr rI) b'.w (sv A4884 l4893 c4885) l4893 hs4883) := by
  intro N
  induction N with
  | zero =>
    intro b R T hb0 al W aa ab ac ad ae af ag l56 ay l60 X O l64 l65 H z I J A B C D E F ah ai A3 c4 n A8 c9 m A13 c14 p am an a t y q ao c aq d h47 h5 hnz57 h10 hnz59 h15 h20 h25 hnz63 h29 h33 l4887 l4888 l4891 l4893 hm
    unfold mFleetStandIns_1_2 at hm
    cases hm
  | succ N ih =>
   intro b R T hb0 al W aa ab ac ad ae af ag l56 ay l60 X O l64 l65 H z I J A B C D E F ah ai A3 c4 n A8 c9 m A13 c14 p am an a t y q ao c aq d h47 h5 hnz57 h10 hnz59 h15 h20 h25 hnz63 h29 h33 l4887 l4888 l4891 l4893 hm
   refine fE 96 Try.func31 rfl Try.ntmps31 rfl ?_
   unfold mFleetStandIns_1_2 at hm
   refine Cs ?_
   obtain ⟨x4897, hj4898, hk4898⟩ := bS hm
   refine Cj (fun b4895 e' hp' => [(0, iv al), (1, pb H), (2, pb z), (3, pb I), (4, pb J), (5, pb A), (6, pb B), (7, pb C), (8, pb D), (9, pb E), (10, pb F), (23, bv x4897)] = e' ∧ (H, Cl 23 [sv A3 l56 c4]) :: (z, Cl 42 [sv A8 ay c9]) :: (I, Cl 42 [sv A13 l60 c14]) :: (J, Cl 42 [sv am X an]) :: (A, Cl 23 [sv t O y]) :: (B, Cl 77 [.map (some ao)]) :: (C, Cl 76 [.map (some aq)]) :: (D, Cl 45 [sv ah W ai]) :: (E, Cl 27 [iv aa, iv ab, iv ac, iv ad, iv ae, iv af, iv ag]) :: (F, Cl 70 [.func (.func 31) #[] #[pb H, pb z, pb I, pb J, pb A, pb B, pb C, pb D, pb E, pb F]]) :: (n ++ (m ++ (p ++ (a ++ (q ++ (c ++ (d ++ R))))))) = hp' ∧ b.Le b4895) ?_ ?_
   have hm := hj4898
   refine Cg<|Ts rfl (sL 0 rfl one23 rfl rfl)<|Ts rfl (st_neqnil_z rfl rfl hnz57 sl23) ?_
   rcases Bool.eq_false_or_eq_true (!l56.isEmpty) with hc4899 | hc4899
   rw [if_neg (fun hh => Bool.noConfusion (hh.symm.trans (nt hc4899)))] at hm
   refine Tr 16 rfl (v' := .bool true) (by rw [hc4899] <;> rfl)<|M rfl rfl<|Ys 17 rfl rfl rfl<|Ts rfl (sL 1 rfl one42 rfl rfl)<|Ys 17 rfl rfl rfl<|Ts rfl (sE rfl sl42)<|Ys 17 rfl rfl rfl<|Ts rfl (sL 2 rfl one42 rfl rfl)<|Ys 17 rfl rfl rfl<|Ts rfl (sE rfl sl42) ?_
   refine Ys 17 rfl rfl rfl<|Ts rfl (q6 rfl rfl)<|Ts rfl (pT rfl rfl)<|Tn ?_
   obtain rfl := o1 hm
   refine Xp 9 rfl<|Xp 9 rfl<|Xp 9 rfl<|Xp 9 rfl<|Xp 9 rfl<|Xp 9 rfl<|Xp 9 rfl<|Xp 9 rfl<|Xp 9 rfl<|Xp 9 rfl ?_
   refine x_front7 [_, _, _, _, _, _, _, _, _, _] n m p a q c d R rfl<|x_front7 [_, _, _, _, _, _, _, _, _, _] d n m p a q c R rfl<|x_front7 [_, _, _, _, _, _, _, _, _, _] c d n m p a q R rfl<|x_front7 [_, _, _, _, _, _, _, _, _, _] q c d n m p a R rfl<|x_front7 [_, _, _, _, _, _, _, _, _, _] a q c d n m p R rfl<|x_front7 [_, _, _, _, _, _, _, _, _, _] p a q c d n m R rfl<|x_front7 [_, _, _, _, _, _, _, _, _, _] m p a q c d n R rfl ?_
   exact xJ ⟨rfl, rfl, lr⟩ (.refl _)
   rw [if_pos (nf hc4899)] at hm
   refine Tr 16 rfl (v' := .bool false) (by rw [hc4899] <;> rfl)<|M rfl rfl<|No 17 rfl rfl rfl rfl rfl<|No 17 rfl rfl rfl rfl rfl<|No 17 rfl rfl rfl rfl rfl<|No 17 rfl rfl rfl rfl rfl<|No 17 rfl rfl rfl rfl rfl<|Ts rfl (pF rfl rfl)<|Tn ?_
   obtain rfl := o1 hm
   refine Xp 9 rfl<|Xp 9 rfl<|Xp 9 rfl<|Xp 9 rfl<|Xp 9 rfl<|Xp 9 rfl<|Xp 9 rfl<|Xp 9 rfl<|Xp 9 rfl<|Xp 9 rfl ?_
   refine x_front7 [_, _, _, _, _, _, _, _, _, _] n m p a q c d R rfl<|x_front7 [_, _, _, _, _, _, _, _, _, _] d n m p a q c R rfl<|x_front7 [_, _, _, _, _, _, _, _, _, _] c d n m p a q R rfl<|x_front7 [_, _, _, _, _, _, _, _, _, _] q c d n m p a R rfl<|x_front7 [_, _, _, _, _, _, _, _, _, _] a q c d n m p R rfl<|x_front7 [_, _, _, _, _, _, _, _, _, _] p a q c d n m R rfl<|x_front7 [_, _, _, _, _, _, _, _, _, _] m p a q c d n R rfl ?_
   exact xJ ⟨rfl, rfl, lr⟩ (.refl _)
   rintro b4895 _ _ ⟨rfl, rfl, x⟩
   have hm := hk4898
   refine Cc _ rfl (fun hc4900 => ?_) (fun hc4900 => ?_)
   rw [if_pos hc4900] at hm
   refine Ct<|Xr ?_
   obtain ⟨rfl, rfl, rfl, rfl⟩ := some4 hm
   refine Xp 9 rfl<|Xp 9 rfl<|Xp 9 rfl<|Xp 9 rfl<|Xp 9 rfl<|Xp 9 rfl<|Xp 9 rfl<|Xp 9 rfl<|Xp 9 rfl<|Xp 9 rfl ?_
   refine X3 [_, _, _, _, _, _, _, _, _, _] n m p (a ++ (q ++ (c ++ (d ++ R)))) rfl<|X2 [_, _, _, _, _, _, _, _, _, _] p n (m ++ (a ++ (q ++ (c ++ (d ++ R))))) rfl<|x_front7 [_, _, _, _, _, _, _, _, _, _] n p m a q c d R rfl<|x_front7 [_, _, _, _, _, _, _, _, _, _] d n p m a q c R rfl<|x_front7 [_, _, _, _, _, _, _, _, _, _] c d n p m a q R rfl<|x_front7 [_, _, _, _, _, _, _, _, _, _] q c d n p m a R rfl<|x_front7 [_, _, _, _, _, _, _, _, _, _] a q c d n p m R rfl ?_
   have he4901 := (h10.le x)
   have he4902 := (h25.le x)
   have he4903 := (h5.le x)
   have he4904 := (h15.le x)
   exact rM (rs := []) (vs := []) trivial ⟨A8, c9, m, q, A3, c4, n, A13, c14, p, rfl, rfl, he4901, he4902, rfl, hnz63, he4903, hnz57, he4904⟩ (.refl _) x
   rw [if_neg (fun hh => Bool.noConfusion (hh.symm.trans hc4900))] at hm
   refine Ck<|Xn<|Cs<|Cr<|M rfl rfl<|Ts rfl (sL 3 rfl one42 rfl rfl)<|Ts rfl (sE rfl sl42)<|Ts rfl (q1 rfl rfl)<|Te ?_
   refine Cc _ rfl (fun hc4905 => ?_) (fun hc4905 => ?_)
   rw [if_pos (of_decide_eq_true hc4905)] at hm
   obtain ⟨⟨l4948, l4950⟩, hj4951, hk4951⟩ := bS hm
   refine Cj (fun b4936 e' hp' => ∃ (A4940 : OA), ∃ (c4941 : Nat), ∃ (ar : Hp), ∃ (A4945 : OA), ∃ (c4946 : Nat), ∃ (au : Hp), [] = e' ∧ (H, Cl 23 [sv A4940 l4948 c4941]) :: (z, Cl 42 [sv A8 ay c9]) :: (I, Cl 42 [sv A4945 l4950 c4946]) :: (J, Cl 42 [sv am X an]) :: (A, Cl 23 [sv t O y]) :: (B, Cl 77 [.map (some ao)]) :: (C, Cl 76 [.map (some aq)]) :: (D, Cl 45 [sv ah W ai]) :: (E, Cl 27 [iv aa, iv ab, iv ac, iv ad, iv ae, iv af, iv ag]) :: (F, Cl 70 [.func (.func 31) #[] #[pb H, pb z, pb I, pb J, pb A, pb B, pb C, pb D, pb E, pb F]]) :: (n ++ (m ++ (p ++ (a ++ (q ++ (c ++ (d ++ (ar ++ (au ++ R))))))))) = hp' ∧ b4895.Le b4936 ∧ OS 42 (OT.fr (RT.own1 T 3 rI)) b4936.w (sv A4940 l4948 c4941) l4948 ar ∧ (A4940 = none ↔ l4948 = []) ∧ OS 3 (OT.fr rI) b4936.w (sv A4945 l4950 c4946) l4950 au) ?_ ?_
   have hm := hj4951
   obtain ⟨_, h4967, hm⟩ := bS hm
   obtain ⟨l4972, hcl4973, hm⟩ := bS hm
   obtain ⟨_, h4980, hm⟩ := bS hm
   refine Di mixed (.cons _ (.refl _))<|Es 0 rfl (sL 3 rfl one23 rfl rfl)<|Es 2 rfl (sL 0 rfl one42 rfl rfl)<|Eo ?_
   have h4967 := room_some h4967
   refine Da [1] (by kernel_rfl) rfl ?_
   refine Rd2 lr rfl rfl (u_cloneOwn (r := (RT.own1 T 3 rI)) (l := O) (sz := 1) (by_ := 24) [_, _, _, _, _, _, _, _, _, _] (n ++ (m ++ (p ++ (a ++ (q ++ (c ++ (d ++ R))))))) rfl clSlicesClone_2 call26 rfl rfl (h25.le x) (.cons _ (.cons _ (.cons _ (.cons _ (.cons _ (.cons _ (.cons _ (.cons _ (.cons _ (.cons _ (ss n (ss m (ss p (ss a (List.sublist_append_left _ _))))))))))))))) h4967) ?_ ?_
   rintro _ _ ⟨A4970, c4971, aj, rfl, rfl, h4969⟩
   refine ⟨.inr (.cons _ (.cons_cons _ (.cons_cons _ (.cons_cons _ (.cons_cons _ (.cons_cons _ (.cons_cons _ (.cons_cons _ (.cons_cons _ (.cons_cons _ (ss aj (.refl _)))))))))))), ?_⟩
   refine Da [3] (by kernel_rfl) rfl ?_
   refine Rd2 lr rfl rfl (u_callWF [_, _, _, _, _, _, _, _, _, _] (aj ++ (n ++ (m ++ (p ++ (a ++ (q ++ (c ++ (d ++ R)))))))) _ rfl call27 rfl (fun w ho => cSlicesClone _ [] ay A8 c9 (OS.now (o := (OT.fr rI)) (l := ay) (hs := m) (h10.le x) ho (.cons _ (.cons _ (.cons _ (.cons _ (.cons _ (.cons _ (.cons _ (.cons _ (.cons _ (.cons _ (ss aj (ss n (List.sublist_append_left _ _)))))))))))))) l4972 hcl4973)) ?_ ?_
   rintro _ _ ⟨_, _, rfl, A4974, c4975, hs4976, rfl, hq4979, h4977⟩
   obtain rfl := List.append_cancel_right hq4979
   have h4978 := flat_fz (w' := b4895.w) (fun _ _ _ _ h => h) h4977
   refine ⟨.inr (.cons _ (.cons_cons _ (.cons_cons _ (.cons_cons _ (.cons_cons _ (.cons_cons _ (.cons_cons _ (.cons_cons _ (.cons_cons _ (.cons_cons _ (ss hs4976 (ss aj (.refl _))))))))))))), ?_⟩
   have hnz4981 : (A4970 = none ↔ O = []) := ⟨fun e => absurd e (OS.ne h4969 h4980), fun e => absurd e (some?_some h4980)⟩
   refine Da [4] (by kernel_rfl) rfl ?_
   refine Rd2 lr rfl rfl (uS 0 rfl rfl siz23 rfl rfl (by simp)) ?_ ?_
   rintro _ _ rfl
   refine ⟨.inr (.cons _ (.cons_cons _ (.cons_cons _ (.cons_cons _ (.cons_cons _ (.cons_cons _ (.cons_cons _ (.cons_cons _ (.cons_cons _ (.cons_cons _ (ss hs4976 (ss aj (.refl _))))))))))))), ?_⟩
   refine Da [5] (by kernel_rfl) rfl ?_
   refine Rd2 lr rfl rfl (uS 2 rfl rfl siz42 rfl rfl (by simp)) ?_ ?_
   rintro _ _ rfl
   refine ⟨.inl (by kernel_rfl), ?_⟩
   refine Dd (by kernel_rfl) ?_
   obtain ⟨rfl, rfl⟩ := some2 hm
   refine Xp 9 rfl<|Xp 9 rfl<|Xp 9 rfl<|Xp 9 rfl<|Xp 9 rfl<|Xp 9 rfl<|Xp 9 rfl<|Xp 9 rfl<|Xp 9 rfl<|Xp 9 rfl ?_
   refine X2 [_, _, _, _, _, _, _, _, _, _] hs4976 aj (n ++ (m ++ (p ++ (a ++ (q ++ (c ++ (d ++ R))))))) rfl<|x_front9 [_, _, _, _, _, _, _, _, _, _] aj hs4976 n m p a q c d R rfl<|x_front9 [_, _, _, _, _, _, _, _, _, _] d aj hs4976 n m p a q c R rfl<|x_front9 [_, _, _, _, _, _, _, _, _, _] c d aj hs4976 n m p a q R rfl<|x_front9 [_, _, _, _, _, _, _, _, _, _] q c d aj hs4976 n m p a R rfl<|x_front9 [_, _, _, _, _, _, _, _, _, _] a q c d aj hs4976 n m p R rfl<|x_front9 [_, _, _, _, _, _, _, _, _, _] p a q c d aj hs4976 n m R rfl<|x_front9 [_, _, _, _, _, _, _, _, _, _] m p a q c d aj hs4976 n R rfl ?_
   exact xJ ⟨A4970, c4971, aj, A4974, c4975, hs4976, rfl, rfl, lr, h4969, hnz4981, h4978⟩ (.refl _)
   exact Rn
   exact Rn
   exact Rn
   exact Rn
   rintro b4936 _ _ ⟨A4940, c4941, ar, A4945, c4946, au, rfl, rfl, hle4937, h4942, hnz4949, h4947⟩
   have hm := (unc2E hk4951)
   refine Ct<|Xr ?_
   obtain ⟨rfl, rfl, rfl, rfl⟩ := some4 hm
   refine Xp 9 rfl<|Xp 9 rfl<|Xp 9 rfl<|Xp 9 rfl<|Xp 9 rfl<|Xp 9 rfl<|Xp 9 rfl<|Xp 9 rfl<|Xp 9 rfl<|Xp 9 rfl ?_
   refine x_front9 [_, _, _, _, _, _, _, _, _, _] n m p a q c d ar au R rfl<|x_front9 [_, _, _, _, _, _, _, _, _, _] au n m p a q c d ar R rfl<|x_front9 [_, _, _, _, _, _, _, _, _, _] ar au n m p a q c d R rfl<|x_front9 [_, _, _, _, _, _, _, _, _, _] d ar au n m p a q c R rfl<|x_front9 [_, _, _, _, _, _, _, _, _, _] c d ar au n m p a q R rfl<|x_front9 [_, _, _, _, _, _, _, _, _, _] q c d ar au n m p a R rfl<|x_front8 [_, _, _, _, _, _, _, _, _, _] a q c d ar au n m (p ++ R) rfl ?_
   have he4982 := (h10.le (x.trans hle4937))
   have he4983 := (h25.le (x.trans hle4937))
   exact rM (rs := []) (vs := []) trivial ⟨A8, c9, m, q, A4940, c4941, ar, A4945, c4946, au, rfl, rfl, he4982, he4983, rfl, hnz63, h4942, hnz4949, h4947⟩ (.cons_cons _ (.cons_cons _ (.cons_cons _ (.cons_cons _ (.cons_cons _ (.cons_cons _ (.cons_cons _ (.cons_cons _ (.cons_cons _ (.cons_cons _ (sp m (sp a (sp q (sp c (sp d (sp ar (sp au (ss n (ss p (.refl _)))))))))))))))))))) (x.trans hle4937)
   rw [if_neg (of_decide_eq_false hc4905)] at hm
   refine Ck<|Xn<|Cr<|Ts rfl (sL 3 rfl one42 rfl rfl)<|M rfl rfl ?_
   obtain ⟨u, h4985, hm⟩ := bS hm
   obtain ⟨j4986, hj4987, hx4988⟩ := iS h4985
   obtain ⟨cs4989, hs4994, P4995, P4996, hq4997, hr4990, hcs4991, hA4992, hlt4993, hb4998, hho4999⟩ := OS.get (sz := 1) rfl (by decide) (h20.le x) hx4988
   obtain ⟨rfl, rfl⟩ := hr4990
   refine Ts rfl (sI j4986 rfl rfl hj4987 hlt4993 hA4992 sl42)<|Ts rfl (st_load_rd rfl one3 (fun w ho => hcs4991 w _ ho (.cons _ (.cons _ (.cons _ (.cons _ (.cons _ (.cons _ (.cons _ (.cons _ (.cons _ (.cons _ (ss n (ss m (ss p (List.sublist_append_left _ _)))))))))))))) 0 _ rfl))<|As rfl rfl<|Te<|Cs<|Cr<|Ts rfl (sL 4 rfl one23 rfl rfl)<|Ts rfl (sE rfl sl23)<|M rfl rfl<|Te ?_
   refine Cb ?_
   have hb5001 : O.length ≤ 9223372036854775807 := (OS.len h25)
   refine Cp 3 rfl<|Cp 3 rfl<|Cp 2 rfl<|Cp 9 rfl<|Cp 9 rfl<|Cp 9 rfl<|Cp 9 rfl<|Cp 9 rfl<|Cp 9 rfl<|Cp 9 rfl ?_
   refine c_front3 [_, _, _, _, _, _, _, _, _, _] n m p (a ++ (q ++ (c ++ (d ++ R)))) rfl<|c_front2 [_, _, _, _, _, _, _, _, _, _] p n (m ++ (a ++ (q ++ (c ++ (d ++ R))))) rfl<|c_front7 [_, _, _, _, _, _, _, _, _, _] n p m a q c d R rfl<|c_front7 [_, _, _, _, _, _, _, _, _, _] d n p m a q c R rfl<|c_front6 [_, _, _, _, _, _, _, _, _, _] c d n p m a (q ++ R) rfl<|c_front6 [_, _, _, _, _, _, _, _, _, _] a c d n p m (q ++ R) rfl<|c_front7 [_, _, _, _, _, _, _, _, _, _] m a c d n p q R rfl ?_
   obtain ⟨⟨Y, l6066, l6067, l6069⟩, hl6071, hk6072⟩ := bS hm
   refine cS (fun K => unc4 fun Y l6066 l6067 l6069 => fun b6043 e' hp' => ∃ (s : Hp), ∃ (A6050 : OA), ∃ (c6051 : Nat), ∃ (j : Hp), ∃ (A6055 : OA), ∃ (c6056 : Nat), ∃ (f : Hp), ∃ (A6060 : OA), ∃ (c6061 : Nat), ∃ (g : Hp), [(0, iv al), (2, pb z), (5, pb A), (6, pb B), (7, pb C), (8, pb D), (9, pb E), (10, pb F), (12, iv u), (36, sv t Y y), (37, iv ((O.length : Int))), (38, iv ((K : Int)))] = e' ∧ (z, Cl 42 [sv A6050 l6066 c6051]) :: (A, Cl 23 [sv t Y y]) :: (B, Cl 77 [.map (some ao)]) :: (C, Cl 76 [.map (some aq)]) :: (D, Cl 45 [sv ah W ai]) :: (E, Cl 27 [iv aa, iv ab, iv ac, iv ad, iv ae, iv af, iv ag]) :: (F, Cl 70 [.func (.func 31) #[] #[pb H, pb z, pb I, pb J, pb A, pb B, pb C, pb D, pb E, pb F]]) :: (H, Cl 23 [sv A6055 l6067 c6056]) :: (I, Cl 42 [sv A6060 l6069 c6061]) :: (J, Cl 42 [sv am X an]) :: (s ++ (j ++ (a ++ (c ++ (d ++ (f ++ (g ++ R))))))) = hp' ∧ b4895.Le b6043 ∧ OS 42 (OT.fr (RT.own1 T 3 rI)) b6043.w (sv t Y y) Y s ∧ Y.length = O.length ∧ (t = none ↔ Y = []) ∧ OS 3 (OT.fr rI) b6043.w (sv A6050 l6066 c6051) l6066 j ∧ OS 42 (OT.fr (RT.own1 T 3 rI)) b6043.w (sv A6055 l6067 c6056) l6067 f ∧ (A6055 = none ↔ l6067 = []) ∧ OS 3 (OT.fr rI) b6043.w (sv A6060 l6069 c6061) l6069 g) hl6071 ⟨q, A8, c9, m, A3, c4, n, A13, c14, p, rfl, rfl, lr, (h25.le x), rfl, hnz63, (h10.le x), (h5.le x), hnz57, (h15.le x)⟩ (.refl _) ?_ ?_
   rintro K ⟨Y, l6066, l6067, l6069⟩ b6043 _ _ oL5000 hknL5000 ⟨s, A6050, c6051, j, A6055, c6056, f, A6060, c6061, g, rfl, rfl, L, h6047, hln6064, hnz6065, h6052, h6057, hnz6068, h6062⟩ hstepL5000
   unfold mFleetStandIns_1_2_L5000 at hstepL5000
   have hm := (unc4E hstepL5000)
   refine Cr<|Ts rfl (lT rfl rfl (by omega))<|Te<|Cs<|c_cond_t rfl<|Ck<|Xn<|Cs<|Cb<|Cr ?_
   refine M rfl rfl ?_
   obtain ⟨x6073, h6074, hm⟩ := bS hm
   obtain ⟨j6075, hj6076, hx6077⟩ := iS h6074
   obtain ⟨cs6078, hs6083, P6084, P6085, hq6086, hr6079, hcs6080, hA6081, hlt6082, hb6087, hho6088⟩ := OS.get (sz := 1) rfl (by decide) h6047 hx6077
   obtain ⟨⟨A6089, c6090, rfl, h6091, h6092⟩, rfl⟩ := hr6079
   refine Ts rfl (sI j6075 rfl rfl hj6076 hlt6082 hA6081 sl23)<|Ts rfl (st_load_rd rfl one42 (fun w ho => hcs6080 w _ ho (.cons _ (.cons _ (.cons _ (.cons _ (.cons _ (.cons _ (.cons _ (.cons _ (.cons _ (.cons _ (List.sublist_append_left _ _))))))))))) 0 _ rfl))<|As rfl rfl<|As rfl rfl<|Te<|Cs ?_
   obtain ⟨x6141, hj6142, hk6142⟩ := bS hm
   refine Cj (fun b6139 e' hp' => [(0, iv al), (2, pb z), (5, pb A), (6, pb B), (7, pb C), (8, pb D), (9, pb E), (10, pb F), (12, iv u), (13, iv ((K : Int))), (14, sv A6089 x6073 c6090), (36, sv t Y y), (37, iv ((O.length : Int))), (38, iv ((K : Int))), (58, bv x6141)] = e' ∧ (z, Cl 42 [sv A6050 l6066 c6051]) :: (A, Cl 23 [sv t Y y]) :: (B, Cl 77 [.map (some ao)]) :: (C, Cl 76 [.map (some aq)]) :: (D, Cl 45 [sv ah W ai]) :: (E, Cl 27 [iv aa, iv ab, iv ac, iv ad, iv ae, iv af, iv ag]) :: (F, Cl 70 [.func (.func 31) #[] #[pb H, pb z, pb I, pb J, pb A, pb B, pb C, pb D, pb E, pb F]]) :: (H, Cl 23 [sv A6055 l6067 c6056]) :: (I, Cl 42 [sv A6060 l6069 c6061]) :: (J, Cl 42 [sv am X an]) :: (s ++ (j ++ (a ++ (c ++ (d ++ (f ++ (g ++ R))))))) = hp' ∧ b6043.Le b6139) ?_ ?_
   have hm := hj6142
   obtain ⟨x6169, h6171, hm⟩ := bS hm
   by_cases hc6172 : (K : Int) = x6169
   rw [if_pos hc6172] at hm
   refine Di mixed (.refl _)<|E0 0 rfl (sM rfl)<|Es 1 rfl (sL 2 rfl one77 rfl rfl)<|E0 2 rfl (sM rfl) ?_
   have hx6170 := Option.some.inj h6171
   obtain ⟨v6166, hv6167, hr6168⟩ := OM.lookF kok3 (z0 := 0) (h29.le (x.trans L)) (key := iv u) (k := u) rfl mapt77 zero3 rfl
   rw [hx6170] at hv6167
   obtain rfl : v6166 = iv x6169 := by have hv6167 : [v6166] = [iv x6169] := hv6167; injection hv6167
   refine Es 3 rfl (st_mlook (ok := false) rfl rfl (fun w ho => hr6168 _ w ho (.cons _ (.cons _ (.cons _ (.cons _ (.cons _ (.cons _ (.cons _ (.cons _ (.cons _ (.cons _ (ss s (ss j (ss a (List.sublist_append_left _ _)))))))))))))) false))<|E0 4 rfl (eT rfl rfl hc6172)<|E0 5 rfl (sM rfl)<|En 6 48 rfl rfl rfl<|En 7 48 rfl rfl rfl<|En 8 48 rfl rfl rfl<|En 9 48 rfl rfl rfl<|En 10 48 rfl rfl rfl<|En 11 48 rfl rfl rfl<|En 12 48 rfl rfl rfl ?_
   refine En 13 48 rfl rfl rfl<|En 14 48 rfl rfl rfl<|E0 15 rfl (pT rfl rfl)<|Eo<|Dd (by kernel_rfl) ?_
   obtain rfl := o1 hm
   refine Xp 9 rfl<|Xp 9 rfl<|Xp 9 rfl<|Xp 9 rfl<|Xp 9 rfl<|Xp 9 rfl<|Xp 9 rfl<|Xp 9 rfl<|Xp 9 rfl<|Xp 9 rfl ?_
   refine x_front7 [_, _, _, _, _, _, _, _, _, _] s j a c d f g R rfl<|x_front7 [_, _, _, _, _, _, _, _, _, _] g s j a c d f R rfl<|x_front7 [_, _, _, _, _, _, _, _, _, _] f g s j a c d R rfl<|x_front7 [_, _, _, _, _, _, _, _, _, _] d f g s j a c R rfl<|x_front7 [_, _, _, _, _, _, _, _, _, _] c d f g s j a R rfl<|x_front7 [_, _, _, _, _, _, _, _, _, _] a c d f g s j R rfl<|x_front7 [_, _, _, _, _, _, _, _, _, _] j a c d f g s R rfl ?_
   exact xJ ⟨rfl, rfl, lr⟩ (.refl _)
   rw [if_neg hc6172] at hm
   obtain ⟨x6173, h6174, hm⟩ := bS hm
   obtain ⟨x6186, h6188, hm⟩ := bS hm
   refine Di mixed (.refl _)<|E0 0 rfl (sM rfl)<|Es 1 rfl (sL 2 rfl one77 rfl rfl)<|E0 2 rfl (sM rfl) ?_
   have hx6170 := Option.some.inj h6171
   obtain ⟨v6166, hv6167, hr6168⟩ := OM.lookF kok3 (z0 := 0) (h29.le (x.trans L)) (key := iv u) (k := u) rfl mapt77 zero3 rfl
   rw [hx6170] at hv6167
   obtain rfl : v6166 = iv x6169 := by have hv6167 : [v6166] = [iv x6169] := hv6167; injection hv6167
   refine Es 3 rfl (st_mlook (ok := false) rfl rfl (fun w ho => hr6168 _ w ho (.cons _ (.cons _ (.cons _ (.cons _ (.cons _ (.cons _ (.cons _ (.cons _ (.cons _ (.cons _ (ss s (ss j (ss a (List.sublist_append_left _ _)))))))))))))) false))<|E0 4 rfl (eF rfl rfl hc6172)<|E0 5 rfl (sM rfl)<|Ey 6 48 rfl (sL 3 rfl one76 rfl rfl)<|Yz 7 48 rfl (sM rfl)<|Ey 8 48 rfl (sL 4 rfl one45 rfl rfl)<|Yz 9 48 rfl (sM rfl) ?_
   obtain ⟨j6175, hj6176, hx6177⟩ := iS h6174
   obtain ⟨cs6178, hr6179, hcs6180, hA6181, hlt6182⟩ := FZ.get (sz := 3) rfl (by decide) (h47.le (x.trans L)) hx6177
   obtain ⟨_, _, rfl, rfl, ⟨_, _, rfl, rfl, rfl⟩⟩ := hr6179
   refine Yz 10 48 rfl (sI j6175 rfl rfl hj6176 hlt6182 hA6181 sl45)<|Yz 11 48 rfl (sQ rfl hA6181 fld47_0)<|Ey 12 48 rfl (sO rfl one3 (hcs6180 0 _ rfl))<|Yz 13 48 rfl (sB (v := .agg #[iv ((K : Int)), iv x6173.Day]) [(0, iv ((K : Int))), (1, iv x6173.Day)] rfl (fun _ => by kernel_rfl)) ?_
   have hx6187 := Option.some.inj h6188
   obtain ⟨v6183, hv6184, hr6185⟩ := OM.lookF kok54 (z0 := false) (h33.le (x.trans L)) (key := .agg #[iv ((K : Int)), iv x6173.Day]) (k := (⟨(K : Int), x6173.Day⟩ : FleetAbsence)) ⟨[iv ((K : Int)), iv x6173.Day], rfl, ⟨[iv ((K : Int))], _, rfl, rfl, rfl⟩⟩ mapt76 zero4 rfl
   rw [hx6187] at hv6184
   obtain rfl : v6183 = bv x6186 := by have hv6184 : [v6183] = [bv x6186] := hv6184; injection hv6184
   refine Ey 14 48 rfl (st_mlook (ok := false) rfl rfl (fun w ho => hr6185 _ w ho (.cons _ (.cons _ (.cons _ (.cons _ (.cons _ (.cons _ (.cons _ (.cons _ (.cons _ (.cons _ (ss s (ss j (ss a (ss c (List.sublist_append_left _ _))))))))))))))) false))<|E0 15 rfl (pF rfl rfl)<|Eo<|Dd (by kernel_rfl) ?_
   obtain rfl := o1 hm
   refine Xp 9 rfl<|Xp 9 rfl<|Xp 9 rfl<|Xp 9 rfl<|Xp 9 rfl<|Xp 9 rfl<|Xp 9 rfl<|Xp 9 rfl<|Xp 9 rfl<|Xp 9 rfl ?_
   refine x_front7 [_, _, _, _, _, _, _, _, _, _] s j a c d f g R rfl<|x_front7 [_, _, _, _, _, _, _, _, _, _] g s j a c d f R rfl<|x_front7 [_, _, _, _, _, _, _, _, _, _] f g s j a c d R rfl<|x_front7 [_, _, _, _, _, _, _, _, _, _] d f g s j a c R rfl<|x_front7 [_, _, _, _, _, _, _, _, _, _] c d f g s j a R rfl<|x_front7 [_, _, _, _, _, _, _, _, _, _] a c d f g s j R rfl<|x_front7 [_, _, _, _, _, _, _, _, _, _] j a c d f g s R rfl ?_
   exact xJ ⟨rfl, rfl, lr⟩ (.refl _)
   rintro b6139 _ _ ⟨rfl, rfl, G⟩
   have hm := hk6142
   refine Cc _ rfl (fun hc6189 => ?_) (fun hc6189 => ?_)
   rw [if_pos hc6189] at hm
   refine Ce<|Xe<|Xo<|Xn<|Cg<|Ts rfl (sa rfl rfl (by omega))<|M rfl rfl<|Tn<|Xp 9 rfl<|Xp 9 rfl ?_
   refine Xp 9 rfl<|Xp 9 rfl<|Xp 9 rfl<|Xp 9 rfl<|Xp 9 rfl<|Xp 9 rfl<|Xp 9 rfl<|Xp 9 rfl<|x_front7 [_, _, _, _, _, _, _, _, _, _] s j a c d f g R rfl<|x_front7 [_, _, _, _, _, _, _, _, _, _] g s j a c d f R rfl ?_
   refine x_front7 [_, _, _, _, _, _, _, _, _, _] f g s j a c d R rfl<|x_front7 [_, _, _, _, _, _, _, _, _, _] d f g s j a c R rfl<|x_front7 [_, _, _, _, _, _, _, _, _, _] c d f g s j a R rfl<|x_front7 [_, _, _, _, _, _, _, _, _, _] a c d f g s j R rfl<|x_front7 [_, _, _, _, _, _, _, _, _, _] j a c d f g s R rfl ?_
   obtain rfl := o1 hm
   exact xS ⟨s, A6050, c6051, j, A6055, c6056, f, A6060, c6061, g, rfl, rfl, ((L.trans G)), (h6047.le G), hln6064, hnz6065, (h6052.le G), (h6057.le G), hnz6068, (h6062.le G)⟩ (.refl _)
   rw [if_neg (fun hh => Bool.noConfusion (hh.symm.trans hc6189))] at hm
   refine Ck<|Xn ?_
   obtain ⟨l6289, hj6292, hk6292⟩ := bS hm
   refine Cj (fun b6284 e' hp' => ∃ (S : Hp), [(0, iv al), (2, pb z), (5, pb A), (6, pb B), (7, pb C), (8, pb D), (9, pb E), (10, pb F), (12, iv u), (13, iv ((K : Int))), (14, sv A6089 x6073 c6090), (36, sv t l6289 y), (37, iv ((O.length : Int))), (38, iv ((K : Int)))] = e' ∧ (z, Cl 42 [sv A6050 l6066 c6051]) :: (A, Cl 23 [sv t l6289 y]) :: (B, Cl 77 [.map (some ao)]) :: (C, Cl 76 [.map (some aq)]) :: (D, Cl 45 [sv ah W ai]) :: (E, Cl 27 [iv aa, iv ab, iv ac, iv ad, iv ae, iv af, iv ag]) :: (F, Cl 70 [.func (.func 31) #[] #[pb H, pb z, pb I, pb J, pb A, pb B, pb C, pb D, pb E, pb F]]) :: (H, Cl 23 [sv A6055 l6067 c6056]) :: (I, Cl 42 [sv A6060 l6069 c6061]) :: (J, Cl 42 [sv am X an]) :: (S ++ (j ++ (a ++ (c ++ (d ++ (f ++ (g ++ R))))))) = hp' ∧ b6139.Le b6284 ∧ OS 42 (OT.fr (RT.own1 T 3 rI)) b6284.w (sv t l6289 y) l6289 S ∧ l6289.length = O.length ∧ (t = none ↔ l6289 = [])) ?_ ?_
   have hm := hj6292
   obtain ⟨U, hcl6341, hm⟩ := bS hm
   obtain ⟨_, h6349, hm⟩ := bS hm
   obtain ⟨x6354, h6355, hm⟩ := bS hm
   refine Di mixed (.refl _)<|Es 0 rfl (sL 1 rfl one23 rfl rfl)<|E0 1 rfl (sM rfl)<|E0 2 rfl (sM rfl)<|E0 4 rfl (sM rfl)<|Eo<|Da [3, 5] (by kernel_rfl) rfl ?_
   refine Rg lr rfl rfl _ call27 rfl (cSlicesClone _ _ x6073 A6089 c6090 (h6091.le G) U hcl6341) ?_ ?_
   rintro _ b6342 _ ak ⟨A6344, c6345, hs6346, rfl, rfl, h6347⟩
   refine ⟨.inr (ss hs6346 (.refl _)), ?_⟩
   refine d_in1 [] [_, _, _, _, _, _, _, _, _, _] hs6346 (s ++ (j ++ (a ++ (c ++ (d ++ (f ++ (g ++ R))))))) rfl<|Da [5] (by kernel_rfl) rfl ?_
   refine Rd2 ak rfl rfl (u_bslice (el := 3) [(0, iv u)] [iv u] rfl (fun _ => by kernel_rfl)) ?_ ?_
   rintro _ _ ⟨g6348, rfl, rfl⟩
   refine ⟨.inr (.cons _ (.cons_cons _ (.cons_cons _ (.cons_cons _ (.cons_cons _ (.cons_cons _ (.cons_cons _ (.cons_cons _ (.cons_cons _ (.cons_cons _ (.cons_cons _ (ss hs6346 (.refl _))))))))))))), ?_⟩
   have h6349 := room_some h6349
   refine Da [6] (by kernel_rfl) rfl ?_
   refine Rd2 ak rfl rfl (uQ (r := rI) (l := U) [_, _, _, _, _, _, _, _, _, _, _] (s ++ (j ++ (a ++ (c ++ (d ++ (f ++ (g ++ R))))))) [[iv u]] [u] rfl (by decide) sl42 inf3 rfl rfl rfl rfl h6347 rfl (fun w ho => Rd.own (i := 0) ho rfl) ⟨rfl, trivial⟩ h6349) ?_ ?_
   rintro _ _ ⟨hs6350, rfl, h6351⟩
   obtain ⟨A6352, c6353, rfl, _⟩ := h6351.form
   refine ⟨.inr (.cons _ (.cons_cons _ (.cons_cons _ (.cons_cons _ (.cons_cons _ (.cons_cons _ (.cons_cons _ (.cons_cons _ (.cons_cons _ (.cons_cons _ (.cons_cons _ (ss hs6350 (.refl _))))))))))))), ?_⟩
   obtain ⟨j6356, hj6357, hx6358⟩ := iS h6355
   obtain ⟨cs6359, hs6364, P6365, P6366, hq6367, hr6360, hcs6361, hA6362, hlt6363, hb6368, hho6369⟩ := OS.get (sz := 1) rfl (by decide) (h6047.le G) hx6358
   obtain ⟨⟨A6370, c6371, rfl, h6372, h6373⟩, rfl⟩ := hr6360
   refine Ei ak (.cons _ (.cons_cons _ (.cons_cons _ (.cons_cons _ (.cons_cons _ (.cons_cons _ (.cons_cons _ (.cons_cons _ (.cons_cons _ (.cons_cons _ (.cons_cons _ (ss hs6350 (.refl _)))))))))))))<|E0 7 rfl (sI j6356 rfl rfl hj6357 hlt6363 hA6362 sl23)<|Eo<|d_unk [_, _, _, _, _, _, _, _, _, _, _] hs6350 (s ++ (j ++ (a ++ (c ++ (d ++ (f ++ (g ++ R))))))) rfl ?_
   intro hu6376
   have hnz6377 : (A6352 = none ↔ U ++ [u] = []) := (OS.nz h6351 (by simp))
   refine d_frz [_, _, _, _, _, _, _, _, _, _, _] hs6350 (s ++ (j ++ (a ++ (c ++ (d ++ (f ++ (g ++ R))))))) rfl ?_
   intro b6378 hle6379 hz6380
   have h6381 := OS.frz (l := U ++ [u]) h6351 hle6379.cells hz6380
   have h6382 : Own1 T 3 rI b6378.w A6352 c6353 (U ++ [u]) := own1_of (by decide) h6351 hle6379.cells hz6380 hu6376 (hb0.trans (x.trans (L.trans (G.trans ak)))) (fun e => absurd e (by simp))
   refine Da [8] (by kernel_rfl) rfl ?_
   refine Rd2 (ak.trans hle6379) rfl rfl (uP hj6357 (sz := 1) (a' := U ++ [u]) rfl [_, _, _, _, _, _, _, _, _, _, _] (j ++ (a ++ (c ++ (d ++ (f ++ (g ++ R)))))) 0 1 [.slice A6352 (U ++ [u]).length c6353] rfl (h6047.le (G.trans (ak.trans hle6379))) hx6358 rfl rfl rfl siz42 rfl (mc rfl mn) (fun cs hsj hh => by obtain ⟨⟨A6383, c6384, rfl, h6385, h6386⟩, rfl⟩ := hh; exact ⟨by first | decide | exact Nat.le_refl _, (RT.own1_mk h6381 h6382), rfl⟩)) ?_ ?_
   rintro _ _ ⟨V, rfl, h6375⟩
   refine ⟨.inl (by kernel_rfl), ?_⟩
   refine d_resp 36 rfl (v' := .slice t (put Y (K : Int) (U ++ [u])).length y) (by simp only [put_length])<|d_hresp 2 rfl (o' := Cl 23 [.slice t (put Y (K : Int) (U ++ [u])).length y]) (by simp only [put_length])<|Dd (by kernel_rfl) ?_
   obtain rfl := o1 hm
   refine Xp 10 rfl<|Xp 10 rfl<|Xp 10 rfl<|Xp 10 rfl<|Xp 10 rfl<|Xp 10 rfl<|Xp 10 rfl<|Xp 10 rfl<|Xp 10 rfl<|Xp 10 rfl ?_
   refine x_front7 [_, _, _, _, _, _, _, _, _, _, _] V j a c d f g R rfl<|x_front7 [_, _, _, _, _, _, _, _, _, _, _] g V j a c d f R rfl<|x_front7 [_, _, _, _, _, _, _, _, _, _, _] f g V j a c d R rfl<|x_front7 [_, _, _, _, _, _, _, _, _, _, _] d f g V j a c R rfl<|x_front7 [_, _, _, _, _, _, _, _, _, _, _] c d f g V j a R rfl<|x_front7 [_, _, _, _, _, _, _, _, _, _, _] a c d f g V j R rfl<|x_front7 [_, _, _, _, _, _, _, _, _, _, _] j a c d f g V R rfl ?_
   exact xJ ⟨V, rfl, rfl, (ak.trans hle6379), h6375, ((put_length _ _ _).trans hln6064), (put_nz hnz6065)⟩ (.cons_cons _ (.cons_cons _ (.cons_cons _ (.cons_cons _ (.cons_cons _ (.cons_cons _ (.cons_cons _ (.cons_cons _ (.cons_cons _ (.cons_cons _ (.cons _ (.refl _))))))))))))
   exact Rn
   exact Rn
   exact Rn
   refine Rd2 lr rfl rfl (u_bslice (el := 3) [(0, iv u)] [iv u] rfl (fun _ => by kernel_rfl)) ?_ ?_
   rintro _ _ ⟨g6348, rfl, rfl⟩
   refine ⟨.inr (.cons _ (.refl _)), ?_⟩
   refine Da [3] (by kernel_rfl) rfl ?_
   refine Rg lr rfl rfl _ call27 rfl (cSlicesClone _ _ x6073 A6089 c6090 (h6091.le G) U hcl6341) ?_ ?_
   rintro _ b6342 _ ak ⟨A6344, c6345, hs6346, rfl, rfl, h6347⟩
   refine ⟨.inr (ss hs6346 (.cons _ (.refl _))), ?_⟩
   refine d_in1 [] [_, _, _, _, _, _, _, _, _, _, _] hs6346 (s ++ (j ++ (a ++ (c ++ (d ++ (f ++ (g ++ R))))))) rfl ?_
   have h6349 := room_some h6349
   refine Da [6] (by kernel_rfl) rfl ?_
   refine Rd2 ak rfl rfl (uQ (r := rI) (l := U) [_, _, _, _, _, _, _, _, _, _, _] (s ++ (j ++ (a ++ (c ++ (d ++ (f ++ (g ++ R))))))) [[iv u]] [u] rfl (by decide) sl42 inf3 rfl rfl rfl rfl h6347 rfl (fun w ho => Rd.own (i := 0) ho rfl) ⟨rfl, trivial⟩ h6349) ?_ ?_
   rintro _ _ ⟨hs6350, rfl, h6351⟩
   obtain ⟨A6352, c6353, rfl, _⟩ := h6351.form
   refine ⟨.inr (.cons _ (.cons_cons _ (.cons_cons _ (.cons_cons _ (.cons_cons _ (.cons_cons _ (.cons_cons _ (.cons_cons _ (.cons_cons _ (.cons_cons _ (.cons_cons _ (ss hs6350 (.refl _))))))))))))), ?_⟩
   obtain ⟨j6356, hj6357, hx6358⟩ := iS h6355
   obtain ⟨cs6359, hs6364, P6365, P6366, hq6367, hr6360, hcs6361, hA6362, hlt6363, hb6368, hho6369⟩ := OS.get (sz := 1) rfl (by decide) (h6047.le G) hx6358
   obtain ⟨⟨A6370, c6371, rfl, h6372, h6373⟩, rfl⟩ := hr6360
   refine Ei ak (.cons _ (.cons_cons _ (.cons_cons _ (.cons_cons _ (.cons_cons _ (.cons_cons _ (.cons_cons _ (.cons_cons _ (.cons_cons _ (.cons_cons _ (.cons_cons _ (ss hs6350 (.refl _)))))))))))))<|E0 7 rfl (sI j6356 rfl rfl hj6357 hlt6363 hA6362 sl23)<|Eo<|d_unk [_, _, _, _, _, _, _, _, _, _, _] hs6350 (s ++ (j ++ (a ++ (c ++ (d ++ (f ++ (g ++ R))))))) rfl ?_
   intro hu6376
   have hnz6377 : (A6352 = none ↔ U ++ [u] = []) := (OS.nz h6351 (by simp))
   refine d_frz [_, _, _, _, _, _, _, _, _, _, _] hs6350 (s ++ (j ++ (a ++ (c ++ (d ++ (f ++ (g ++ R))))))) rfl ?_
   intro b6378 hle6379 hz6380
   have h6381 := OS.frz (l := U ++ [u]) h6351 hle6379.cells hz6380
   have h6382 : Own1 T 3 rI b6378.w A6352 c6353 (U ++ [u]) := own1_of (by decide) h6351 hle6379.cells hz6380 hu6376 (hb0.trans (x.trans (L.trans (G.trans ak)))) (fun e => absurd e (by simp))
   refine Da [8] (by kernel_rfl) rfl ?_
   refine Rd2 (ak.trans hle6379) rfl rfl (uP hj6357 (sz := 1) (a' := U ++ [u]) rfl [_, _, _, _, _, _, _, _, _, _, _] (j ++ (a ++ (c ++ (d ++ (f ++ (g ++ R)))))) 0 1 [.slice A6352 (U ++ [u]).length c6353] rfl (h6047.le (G.trans (ak.trans hle6379))) hx6358 rfl rfl rfl siz42 rfl (mc rfl mn) (fun cs hsj hh => by obtain ⟨⟨A6383, c6384, rfl, h6385, h6386⟩, rfl⟩ := hh; exact ⟨by first | decide | exact Nat.le_refl _, (RT.own1_mk h6381 h6382), rfl⟩)) ?_ ?_
   rintro _ _ ⟨V, rfl, h6375⟩
   refine ⟨.inl (by kernel_rfl), ?_⟩
   refine d_resp 36 rfl (v' := .slice t (put Y (K : Int) (U ++ [u])).length y) (by simp only [put_length])<|d_hresp 2 rfl (o' := Cl 23 [.slice t (put Y (K : Int) (U ++ [u])).length y]) (by simp only [put_length])<|Dd (by kernel_rfl) ?_
   obtain rfl := o1 hm
   refine Xp 10 rfl<|Xp 10 rfl<|Xp 10 rfl<|Xp 10 rfl<|Xp 10 rfl<|Xp 10 rfl<|Xp 10 rfl<|Xp 10 rfl<|Xp 10 rfl<|Xp 10 rfl ?_
   refine x_front7 [_, _, _, _, _, _, _, _, _, _, _] V j a c d f g R rfl<|x_front7 [_, _, _, _, _, _, _, _, _, _, _] g V j a c d f R rfl<|x_front7 [_, _, _, _, _, _, _, _, _, _, _] f g V j a c d R rfl<|x_front7 [_, _, _, _, _, _, _, _, _, _, _] d f g V j a c R rfl<|x_front7 [_, _, _, _, _, _, _, _, _, _, _] c d f g V j a R rfl<|x_front7 [_, _, _, _, _, _, _, _, _, _, _] a c d f g V j R rfl<|x_front7 [_, _, _, _, _, _, _, _, _, _, _] j a c d f g V R rfl ?_
   exact xJ ⟨V, rfl, rfl, (ak.trans hle6379), h6375, ((put_length _ _ _).trans hln6064), (put_nz hnz6065)⟩ (.cons_cons _ (.cons_cons _ (.cons_cons _ (.cons_cons _ (.cons_cons _ (.cons_cons _ (.cons_cons _ (.cons_cons _ (.cons_cons _ (.cons_cons _ (.cons _ (.refl _))))))))))))
   exact Rn
   exact Rn
   exact Rn
   exact Rn
   rintro b6284 _ _ ⟨S, rfl, rfl, Z, h6288, hln6290, hnz6291⟩
   have hm := hk6292
   obtain ⟨⟨l6477, l6480, l6481, l6483⟩, hj6484, hk6484⟩ := bS hm
   refine Cj (fun b6457 e' hp' => ∃ (hs6460 : Hp), ∃ (A6464 : OA), ∃ (c6465 : Nat), ∃ (av : Hp), ∃ (A6469 : OA), ∃ (c6470 : Nat), ∃ (aw : Hp), ∃ (A6474 : OA), ∃ (c6475 : Nat), ∃ (ax : Hp), [(0, iv al), (2, pb z), (5, pb A), (6, pb B), (7, pb C), (8, pb D), (9, pb E), (10, pb F), (12, iv u), (13, iv ((K : Int))), (14, sv A6089 x6073 c6090), (36, sv t l6477 y), (37, iv ((O.length : Int))), (38, iv ((K : Int)))] = e' ∧ (z, Cl 42 [sv A6464 l6480 c6465]) :: (A, Cl 23 [sv t l6477 y]) :: (B, Cl 77 [.map (some ao)]) :: (C, Cl 76 [.map (some aq)]) :: (D, Cl 45 [sv ah W ai]) :: (E, Cl 27 [iv aa, iv ab, iv ac, iv ad, iv ae, iv af, iv ag]) :: (F, Cl 70 [.func (.func 31) #[] #[pb H, pb z, pb I, pb J, pb A, pb B, pb C, pb D, pb E, pb F]]) :: (H, Cl 23 [sv A6469 l6481 c6470]) :: (I, Cl 42 [sv A6474 l6483 c6475]) :: (J, Cl 42 [sv am X an]) :: (hs6460 ++ (av ++ (a ++ (c ++ (d ++ (aw ++ (ax ++ R))))))) = hp' ∧ b6284.Le b6457 ∧ OS 42 (OT.fr (RT.own1 T 3 rI)) b6457.w (sv t l6477 y) l6477 hs6460 ∧ l6477.length = O.length ∧ (t = none ↔ l6477 = []) ∧ OS 3 (OT.fr rI) b6457.w (sv A6464 l6480 c6465) l6480 av ∧ OS 42 (OT.fr (RT.own1 T 3 rI)) b6457.w (sv A6469 l6481 c6470) l6481 aw ∧ (A6469 = none ↔ l6481 = []) ∧ OS 3 (OT.fr rI) b6457.w (sv A6474 l6483 c6475) l6483 ax) ?_ ?_
   have hm := hj6484
   refine Cs ?_
   obtain ⟨x6507, h6508, hm⟩ := bS hm
   obtain ⟨x6527, hcl6528, hm⟩ := bS hm
   refine Di mixed (.refl _)<|Es 0 rfl (sL 4 rfl one45 rfl rfl)<|Es 1 rfl (sL 1 rfl one23 rfl rfl)<|E0 2 rfl (sM rfl) ?_
   obtain ⟨j6509, hj6510, hx6511⟩ := iS h6508
   obtain ⟨cs6512, hs6517, P6518, P6519, hq6520, hr6513, hcs6514, hA6515, hlt6516, hb6521, hho6522⟩ := OS.get (sz := 1) rfl (by decide) h6288 hx6511
   obtain ⟨⟨A6523, c6524, rfl, h6525, h6526⟩, rfl⟩ := hr6513
   refine E0 3 rfl (sI j6509 rfl rfl hj6510 hlt6516 hA6515 sl23)<|Es 4 rfl (st_load_rd rfl one42 (fun w ho => hcs6514 w _ ho (.cons _ (.cons _ (.cons _ (.cons _ (.cons _ (.cons _ (.cons _ (.cons _ (.cons _ (.cons _ (List.sublist_append_left _ _))))))))))) 0 _ rfl))<|Es 5 rfl (sD (vs := [_, _, _, _, _, _, _]) 5 7 rfl agg27 rfl rfl rfl)<|Eo<|Da [6] (by kernel_rfl) rfl ?_
   refine Rd2 lr rfl rfl (uW _ call28 rfl (fun w ho => cFleetFits _ [] W x6507 (⟨aa, ab, ac, ad, ae, af, ag⟩ : FleetLimits) ah ai A6523 c6524 ((h47.le (x.trans (L.trans (G.trans Z)))).old ho) (h6525.old ho) x6527 hcl6528) (fun _ _ _ h => h.2.symm)) ?_ ?_
   rintro _ _ ⟨⟨_, rfl, _⟩, rfl⟩
   refine ⟨.inr (.refl _), ?_⟩
   refine Dd (by kernel_rfl)<|Xn ?_
   refine Cc _ rfl (fun hc6529 => ?_) (fun hc6529 => ?_)
   rw [if_pos hc6529] at hm
   refine Cg<|Ts rfl (sL 6 rfl one70 rfl rfl)<|M rfl rfl ?_
   obtain ⟨_, h6530, hm⟩ := bS hm
   have h6530 := (kS h6530).2
   refine Ts rfl (sa rfl rfl h6530) ?_
   obtain ⟨⟨l6531, l6532, l6533, l6534⟩, hcl6535, hm⟩ := bS hm
   obtain ⟨Nhcl6535, hcl6535⟩ := lim_some hcl6535
   have hm := (unc4E hm)
   refine t_pullb 6 rfl<|t_pullb 6 rfl<|t_pullb 6 rfl<|t_pullb 6 rfl<|t_pullb 6 rfl<|t_pullb 6 rfl<|t_pullb 9 rfl<|t_pullb 9 rfl<|t_pullb 8 rfl<|t_pullb 9 rfl ?_
   refine t_front5 [_, _, _, _, _, _, _, _, _, _] S j a c d (f ++ (g ++ R)) rfl<|t_front5 [_, _, _, _, _, _, _, _, _, _] d S j a c (f ++ (g ++ R)) rfl<|t_front3 [_, _, _, _, _, _, _, _, _, _] c d S (j ++ (a ++ (f ++ (g ++ R)))) rfl<|t_front5 [_, _, _, _, _, _, _, _, _, _] S c d j a (f ++ (g ++ R)) rfl<|t_front7 [_, _, _, _, _, _, _, _, _, _] a S c d j f g R rfl<|t_front6 [_, _, _, _, _, _, _, _, _, _] g a S c d j (f ++ R) rfl<|t_front7 [_, _, _, _, _, _, _, _, _, _] j g a S c d f R rfl<|t_out7 [_, _, _, _, _, _, _, _, _, _] [] f j g a S c d R rfl<|Tv #[] #[pb H, pb z, pb I, pb J, pb A, pb B, pb C, pb D, pb E, pb F] [iv (al + 1)] rfl rfl call31 rfl (cFleetStandIns_1_3 (mFleetStandIns_1_2 N) ih Nhcl6535 _ _ T (hb0.trans (x.trans (L.trans (G.trans Z)))) (al + 1) W aa ab ac ad ae af ag l6067 l6066 l6069 X l6289 l64 l65 H z I J A B C D E F ah ai A6055 c6056 f A6050 c6051 j A6060 c6061 g am an a t y S ao c aq d (h47.le (x.trans (L.trans (G.trans Z)))) (h6057.le (G.trans Z)) hnz6068 (h6052.le (G.trans Z)) (h6062.le (G.trans Z)) (h20.le (x.trans (L.trans (G.trans Z)))) h6288 hnz6291 (h29.le (x.trans (L.trans (G.trans Z)))) (h33.le (x.trans (L.trans (G.trans Z)))) l6531 l6532 l6533 l6534 hcl6535) ?_
   rintro _ b6536 _ hle6537 ⟨A6538, c6539, hs6540, hs6541, A6542, c6543, hs6544, A6545, c6546, hs6547, rfl, rfl, h6548, h6549, h6550, h6551, h6552, h6553, h6554⟩
   refine t_in7 [_, _, _, _, _, _, _, _, _, _] [] hs6540 a hs6541 c d hs6544 hs6547 R rfl<|Tr 36 rfl (v' := sv t l6532 y) (by show Value.slice _ _ _ = Value.slice _ _ _; rw [h6550])<|t_hresp 4 rfl (o' := Cl 23 [sv t l6532 y]) (by simp only [sv, h6550])<|Tn ?_
   obtain ⟨rfl, rfl, rfl, rfl⟩ := some4 hm
   refine Xp 3 rfl<|Xp 3 rfl<|Xp 2 rfl<|Xp 9 rfl<|Xp 9 rfl<|Xp 9 rfl<|Xp 9 rfl<|Xp 9 rfl<|Xp 9 rfl<|Xp 9 rfl ?_
   refine x_front7 [_, _, _, _, _, _, _, _, _, _] hs6540 a hs6541 c d hs6544 hs6547 R rfl<|x_front7 [_, _, _, _, _, _, _, _, _, _] hs6547 hs6540 a hs6541 c d hs6544 R rfl<|x_front7 [_, _, _, _, _, _, _, _, _, _] hs6544 hs6547 hs6540 a hs6541 c d R rfl<|x_front7 [_, _, _, _, _, _, _, _, _, _] d hs6544 hs6547 hs6540 a hs6541 c R rfl<|X6 [_, _, _, _, _, _, _, _, _, _] c d hs6544 hs6547 hs6540 a (hs6541 ++ R) rfl<|X6 [_, _, _, _, _, _, _, _, _, _] a c d hs6544 hs6547 hs6540 (hs6541 ++ R) rfl<|x_front7 [_, _, _, _, _, _, _, _, _, _] hs6540 a c d hs6544 hs6547 hs6541 R rfl ?_
   exact xJ ⟨hs6541, A6538, c6539, hs6540, A6542, c6543, hs6544, A6545, c6546, hs6547, rfl, rfl, hle6537, h6549, (h6550.trans hln6290), h6551, h6548, h6552, h6553, h6554⟩ (.refl _)
   rw [if_neg (fun hh => Bool.noConfusion (hh.symm.trans hc6529))] at hm
   refine Ck ?_
   obtain ⟨rfl, rfl, rfl, rfl⟩ := some4 hm
   refine Xp 9 rfl<|Xp 9 rfl<|Xp 9 rfl<|Xp 9 rfl<|Xp 9 rfl<|Xp 9 rfl<|Xp 9 rfl<|Xp 9 rfl<|Xp 9 rfl<|Xp 9 rfl ?_
   refine x_front7 [_, _, _, _, _, _, _, _, _, _] S j a c d f g R rfl<|x_front7 [_, _, _, _, _, _, _, _, _, _] g S j a c d f R rfl<|x_front7 [_, _, _, _, _, _, _, _, _, _] f g S j a c d R rfl<|x_front7 [_, _, _, _, _, _, _, _, _, _] d f g S j a c R rfl<|x_front7 [_, _, _, _, _, _, _, _, _, _] c d f g S j a R rfl<|x_front7 [_, _, _, _, _, _, _, _, _, _] a c d f g S j R rfl<|x_front7 [_, _, _, _, _, _, _, _, _, _] j a c d f g S R rfl ?_
   exact xJ ⟨S, A6050, c6051, j, A6055, c6056, f, A6060, c6061, g, rfl, rfl, lr, h6288, hln6290, hnz6291, (h6052.le (G.trans Z)), (h6057.le (G.trans Z)), hnz6068, (h6062.le (G.trans Z))⟩ (.refl _)
   exact Rn
   rintro b6457 _ _ ⟨hs6460, A6464, c6465, av, A6469, c6470, aw, A6474, c6475, ax, rfl, rfl, hle6458, h6461, hln6478, hnz6479, h6466, h6471, hnz6482, h6476⟩
   have hm := (unc4E hk6484)
   refine Cg<|Ts rfl (sL 1 rfl one23 rfl rfl)<|M rfl rfl<|M rfl rfl ?_
   obtain ⟨x6555, h6556, hm⟩ := bS hm
   obtain ⟨j6557, hj6558, hx6559⟩ := iS h6556
   obtain ⟨cs6560, hs6565, P6566, P6567, hq6568, hr6561, hcs6562, hA6563, hlt6564, hb6569, hho6570⟩ := OS.get (sz := 1) rfl (by decide) h6461 hx6559
   obtain ⟨⟨A6571, c6572, rfl, h6573, h6574⟩, rfl⟩ := hr6561
   refine Ts rfl (sI j6557 rfl rfl hj6558 hlt6564 hA6563 sl23)<|Do rfl (uP hj6558 (sz := 1) (a' := x6073) rfl [_, _, _, _, _, _, _, _, _, _] (av ++ (a ++ (c ++ (d ++ (aw ++ (ax ++ R)))))) 0 1 [sv A6089 x6073 c6090] rfl h6461 hx6559 rfl rfl rfl siz42 rfl (mc rfl mn) (fun cs hsj hh => by obtain ⟨⟨A6577, c6578, rfl, h6579, h6580⟩, rfl⟩ := hh; exact ⟨by first | decide | exact Nat.le_refl _, (RT.own1_mk (h6091.le (G.trans (Z.trans hle6458))) (Own1.mono h6092 (G.trans (Z.trans hle6458)).cells)), rfl⟩)) ?_
   rintro _ _ ⟨hs6575, rfl, h6576⟩
   refine Tr 36 rfl (v' := .slice t (put l6477 (K : Int) x6073).length y) (by simp only [put_length])<|t_hresp 1 rfl (o' := Cl 23 [.slice t (put l6477 (K : Int) x6073).length y]) (by simp only [put_length])<|Tn<|Xm<|Xn<|Cg<|Ts rfl (sa rfl rfl (by omega))<|M rfl rfl<|Tn<|Xp 9 rfl ?_
   refine Xp 9 rfl<|Xp 9 rfl<|Xp 9 rfl<|Xp 9 rfl<|Xp 9 rfl<|Xp 9 rfl<|Xp 9 rfl<|Xp 9 rfl<|Xp 9 rfl<|x_front7 [_, _, _, _, _, _, _, _, _, _] hs6575 av a c d aw ax R rfl ?_
   refine x_front7 [_, _, _, _, _, _, _, _, _, _] ax hs6575 av a c d aw R rfl<|x_front7 [_, _, _, _, _, _, _, _, _, _] aw ax hs6575 av a c d R rfl<|x_front7 [_, _, _, _, _, _, _, _, _, _] d aw ax hs6575 av a c R rfl<|x_front7 [_, _, _, _, _, _, _, _, _, _] c d aw ax hs6575 av a R rfl<|x_front7 [_, _, _, _, _, _, _, _, _, _] a c d aw ax hs6575 av R rfl<|x_front7 [_, _, _, _, _, _, _, _, _, _] av a c d aw ax hs6575 R rfl ?_
   obtain rfl := o1 hm
   exact xS ⟨hs6575, A6464, c6465, av, A6469, c6470, aw, A6474, c6475, ax, rfl, rfl, ((L.trans (G.trans (Z.trans hle6458)))), h6576, ((put_length _ _ _).trans hln6478), (put_nz hnz6479), h6466, h6471, hnz6482, h6476⟩ (.refl _)
   rintro b6043 _ _ ⟨s, A6050, c6051, j, A6055, c6056, f, A6060, c6061, g, rfl, rfl, L, h6047, hln6064, hnz6065, h6052, h6057, hnz6068, h6062⟩
   have hm := (unc4E hk6072)
   refine Cr<|Ts rfl (lF rfl rfl (by omega))<|Te<|Cs<|c_cond_f rfl<|Ce<|Xe<|Xe<|Xo<|Xn ?_
   refine Cr<|Ts rfl (sL 0 rfl one42 rfl rfl)<|M rfl rfl<|Do rfl (u_bslice (el := 3) [(0, iv u)] [iv u] rfl (fun _ => by kernel_rfl)) ?_
   rintro _ _ ⟨g6581, rfl, rfl⟩
   obtain ⟨_, h6582, hm⟩ := bS hm
   have h6582 := room_some h6582
   refine t_front2 [_, _, _, _, _, _, _, _, _, _, _] s j (a ++ (c ++ (d ++ (f ++ (g ++ R))))) rfl<|Do rfl (uQ (r := rI) (l := l6066) [_, _, _, _, _, _, _, _, _, _, _] (s ++ (a ++ (c ++ (d ++ (f ++ (g ++ R)))))) [[iv u]] [u] rfl (by decide) sl42 inf3 rfl rfl rfl rfl h6052 rfl (fun w ho => Rd.own (i := 0) ho rfl) ⟨rfl, trivial⟩ h6582) ?_
   rintro _ _ ⟨hs6583, rfl, h6584⟩
   obtain ⟨A6585, c6586, rfl, _⟩ := h6584.form
   refine Do rfl (uS 1 rfl rfl siz42 rfl rfl (by simp)) ?_
   rintro _ _ rfl
   refine Te<|Cr<|Ts rfl (sL 7 rfl one70 rfl rfl)<|M rfl rfl ?_
   obtain ⟨_, h6587, hm⟩ := bS hm
   have h6587 := (kS h6587).2
   refine Ts rfl (sa rfl rfl h6587) ?_
   obtain ⟨⟨l6588, l6589, l6590, l6591⟩, hcl6592, hm⟩ := bS hm
   have hm := (unc4E hm)
   refine t_pullb 7 rfl<|t_pullb 7 rfl<|t_pullb 7 rfl<|t_pullb 7 rfl<|t_pullb 7 rfl<|t_pullb 7 rfl<|t_pullb 10 rfl<|t_pullb 10 rfl<|t_pullb 9 rfl<|t_pullb 10 rfl ?_
   refine t_front5 [_, _, _, _, _, _, _, _, _, _, _] hs6583 s a c d (f ++ (g ++ R)) rfl<|t_front5 [_, _, _, _, _, _, _, _, _, _, _] d hs6583 s a c (f ++ (g ++ R)) rfl<|t_front4 [_, _, _, _, _, _, _, _, _, _, _] c d hs6583 s (a ++ (f ++ (g ++ R))) rfl<|t_front5 [_, _, _, _, _, _, _, _, _, _, _] s c d hs6583 a (f ++ (g ++ R)) rfl<|t_front7 [_, _, _, _, _, _, _, _, _, _, _] a s c d hs6583 f g R rfl<|t_front6 [_, _, _, _, _, _, _, _, _, _, _] g a s c d hs6583 (f ++ R) rfl<|t_front7 [_, _, _, _, _, _, _, _, _, _, _] hs6583 g a s c d f R rfl<|t_out7 [_, _, _, _, _, _, _, _, _, _] [_] f hs6583 g a s c d R rfl<|Tv #[] #[pb H, pb z, pb I, pb J, pb A, pb B, pb C, pb D, pb E, pb F] [iv (al + 1)] rfl rfl call31 rfl (ih _ _ T (hb0.trans (x.trans L)) (al + 1) W aa ab ac ad ae af ag l6067 (l6066 ++ [u]) l6069 X Y l64 l65 H z I J A B C D E F ah ai A6055 c6056 f A6585 c6586 hs6583 A6060 c6061 g am an a t y s ao c aq d (h47.le (x.trans L)) h6057 hnz6068 h6584 (OS.nz h6584 (by simp)) h6062 (h20.le (x.trans L)) h6047 hnz6065 (h29.le (x.trans L)) (h33.le (x.trans L)) l6588 l6589 l6590 l6591 hcl6592) ?_
   rintro _ b6593 _ hle6594 ⟨A6595, c6596, hs6597, hs6598, A6599, c6600, hs6601, A6602, c6603, hs6604, rfl, rfl, h6605, h6606, h6607, h6608, h6609, h6610, h6611⟩
   refine t_in7 [_, _, _, _, _, _, _, _, _, _] [_] hs6597 a hs6598 c d hs6601 hs6604 R rfl<|t_hresp 4 rfl (o' := Cl 23 [sv t l6589 y]) (by simp only [sv, h6607])<|Te<|Cg<|Ts rfl (sL 1 rfl one42 rfl rfl)<|Ts rfl (sL 1 rfl one42 rfl rfl)<|Ts rfl (sE rfl sl42) ?_
   obtain ⟨_, h6612, hm⟩ := bS hm
   have h6612 := (kS h6612).2
   refine Ts rfl (sb rfl rfl h6612) ?_
   obtain ⟨l6613, h6614, hm⟩ := bS hm
   obtain ⟨j6615, j6616, hj6617, hj6618, hj6619, hj6620, hx6621⟩ := cutS_some h6614
   have h6622 := OS.lc h6605
   refine Ts rfl (hx6621 ▸ st_part (l := l6588) j6615 j6616 rfl (.inl ⟨rfl, by omega⟩) (.inr ⟨_, _, _, rfl, rfl, hj6618⟩) hj6619 hj6620 h6622 sl42) ?_
   obtain ⟨hs6623, hq6624, h6625⟩ := OS.sub (sz := 1) rfl h6605 hj6619 hj6620
   rw [← hx6621] at h6625
   refine t_less [_, _, _, _, _, _, _, _, _, _, _] hs6597 hs6623 (a ++ (hs6598 ++ (c ++ (d ++ (hs6601 ++ (hs6604 ++ R)))))) rfl hq6624<|Do rfl (uS 1 rfl rfl siz42 rfl rfl (by simp)) ?_
   rintro _ _ rfl
   refine Tn ?_
   obtain ⟨rfl, rfl, rfl, rfl⟩ := some4 hm
   refine Xp 9 rfl<|Xp 9 rfl<|Xp 9 rfl<|Xp 9 rfl<|Xp 9 rfl<|Xp 9 rfl<|Xp 9 rfl<|Xp 9 rfl<|Xp 9 rfl<|Xp 9 rfl ?_
   refine x_front7 [_, _, _, _, _, _, _, _, _, _, _] hs6623 a hs6598 c d hs6601 hs6604 R rfl<|x_front7 [_, _, _, _, _, _, _, _, _, _, _] hs6604 hs6623 a hs6598 c d hs6601 R rfl<|x_front7 [_, _, _, _, _, _, _, _, _, _, _] hs6601 hs6604 hs6623 a hs6598 c d R rfl<|x_front7 [_, _, _, _, _, _, _, _, _, _, _] d hs6601 hs6604 hs6623 a hs6598 c R rfl<|x_front7 [_, _, _, _, _, _, _, _, _, _, _] c d hs6601 hs6604 hs6623 a hs6598 R rfl<|x_front7 [_, _, _, _, _, _, _, _, _, _, _] hs6598 c d hs6601 hs6604 hs6623 a R rfl<|x_front7 [_, _, _, _, _, _, _, _, _, _, _] a hs6598 c d hs6601 hs6604 hs6623 R rfl ?_
   exact endM (x.trans (L.trans hle6594)) rfl (.cons_cons _ (.cons_cons _ (.cons_cons _ (.cons_cons _ (.cons_cons _ (.cons_cons _ (.cons_cons _ (.cons_cons _ (.cons_cons _ (.cons_cons _ (.cons _ (.refl _)))))))))))) ⟨(subA A6595 c6596 j6615 1), (c6596 - j6615), hs6623, hs6598, A6599, c6600, hs6601, A6602, c6603, hs6604, rfl, rfl, h6625, h6606, (h6607.trans hln6064), h6608, h6609, h6610, h6611⟩

end Go.Proofs.Ytnmhabgnfifkdaa
