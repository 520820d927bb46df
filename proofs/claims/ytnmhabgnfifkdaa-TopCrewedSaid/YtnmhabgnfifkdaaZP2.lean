/- Contracts: the code computes its model (part 2). -/
import Derived.Test.YtnmhabgnfifkdaaZP1
set_option linter.unusedVariables false
set_option linter.unusedSimpArgs false
namespace Go.Proofs.Ytnmhabgnfifkdaa
open Go.RowKit Go.Fp

open Go.Fp renaming t_mv → M, t_as → As, t_st → Ts, t_do → Do, t_ne → Te, t_nil → Tn, t_no → No, t_yes → Ys, t_bool → Tb, t_callG → Tg, t_callvG → Tv, t_resp → Tr, c_sr → Cr, c_seq → Cs, c_region → Cg, c_cond → Cc, c_block → Cb, c_ret → Ct, c_skip → Ck, c_exit → Ce, c_join → Cj, c_pullb → Cp, x_then_normal → Xn, x_then_ret → Xr, x_then_exit → Xe, x_block_ret → Xb, x_block_normal → Xm, x_block_out → Xo, x_pullb → Xp, x_front2 → X2, E_st → Es, E_s0 → E0, E_yes → Ey, E_y0 → Yz, E_no → En, E_in → Ei, E_il → El, E_out → Eo, D_all → Da, D_done → Dd, D_drawI → Di, R_do → Rd2, R_nil → Rn, R_callGl → Rg, st_load → sL, st_loadD → sD, st_field → sF, st_nil → sN, st_len → sE, st_move → sM, st_assign → sA, st_pick_t → pT, st_pick_f → pF, st_index_old → sI, st_load_old → sO, st_loadN_old → sP, st_field_old → sQ, st_add → sa, st_sub → sb, st_lss_t → lT, st_lss_f → lF, st_not → sn2, st_build → sB, u_box → uB, u_alloc → uA, u_store → uS, u_storeN → uN, u_callW0 → uW, u_putOS → uP, u_appOS → uQ, fn_enterG → fE, bindS → bS, some1 → o1, idx_some → iS, sub_skip → ss, sub_app → sp, chk_some → kS, notT → nt, notF → nf, d_front2 → d2, mem_c → mc, mem_n → mn, st_eql → q1, st_neq → q2, st_lss → q3, st_leq → q4, st_gtr → q5, st_geq → q6
set_option maxRecDepth 20000 in
theorem cSlicesIndex (b : Base) (R : Hp) (a : (List Bool)) (e : Bool) (f : OA) (g : Nat) (k : FZ RT.bool b.w f g a) (l : Int) (hm : mSlicesIndex a e = some l) :
    CallsG Try.prog 54 [sv f a g, bv e] b (R) (fun v b' hp' => iv l = v ∧ R = hp') := by
 refine fE 19 Try.func54 rfl Try.ntmps54 rfl ?_
 unfold mSlicesIndex at hm
 refine Cr<|As rfl rfl<|Te<|Cs<|Cr<|M rfl rfl<|Ts rfl (sE rfl sl63)<|M rfl rfl<|Te<|Cb ?_
 have A : a.length ≤ 9223372036854775807 := (FZ.bd k)
 obtain ⟨B, n, d⟩ := bS hm
 refine cF (fun h => fun _ => fun i e' hp' => [(0, sv f a g), (1, bv e), (7, iv ((a.length : Int))), (8, iv ((h : Int)))] = e' ∧ R = hp' ∧ b.Le i) n ⟨rfl, rfl, lr⟩ (.refl _) ?_ ?_
 rintro h _ i _ _ C D ⟨rfl, rfl, c⟩ m o
 unfold mSlicesIndex_L39 at m
 have hm := m
 refine Cr<|Ts rfl (lT rfl rfl (by omega))<|Te<|Cs<|c_cond_t rfl<|Ck<|Xn<|Cs<|Cb<|Cr ?_
 refine M rfl rfl<|As rfl rfl<|Te<|Cr<|M rfl rfl<|M rfl rfl<|M rfl rfl ?_
 obtain ⟨E, p, hm⟩ := bS hm
 obtain ⟨q, r, s⟩ := iS p
 obtain ⟨F, t, u, w, x⟩ := FZ.get (sz := 1) rfl (by decide) (k.le c) s
 obtain rfl := t
 refine Ts rfl (sI q rfl rfl r x w sl63)<|Ts rfl (sO rfl one4 (u 0 _ rfl))<|Ts rfl (st_beql rfl rfl boo4)<|Te ?_
 refine Cc _ rfl (fun j => ?_) (fun j => ?_)
 rw [if_pos j] at hm
 refine Cr<|M rfl rfl<|As rfl rfl<|Te<|Ct<|Xb<|Xr<|Xr<|Xb<|Xr ?_
 have y := o _ (Option.some.inj hm).symm
 rw [y] at d
 have hm := elimR d
 obtain rfl := o1 hm
 exact rM (rs := [.tmp 4]) (vs := [iv ((h : Int))]) ⟨rfl, trivial⟩ ⟨rfl, rfl⟩ (.refl _) c
 rw [if_neg (fun hh => Bool.noConfusion (hh.symm.trans j))] at hm
 refine Ck<|Xm<|Xn<|Cg<|Ts rfl (sa rfl rfl (by omega))<|M rfl rfl<|Tn ?_
 exact xM hm ⟨rfl, rfl, (c)⟩ (.refl _)
 rintro _ i _ _ ⟨rfl, rfl, c⟩ z
 rw [z] at d
 have hm := elimL d
 refine Cr<|Ts rfl (lF rfl rfl (by omega))<|Te<|Cs<|c_cond_f rfl<|Ce<|Xe<|Xe<|Xo<|Xn ?_
 refine Cr<|As rfl rfl<|Te<|Ct ?_
 obtain rfl := o1 hm
 exact rM (rs := [.tmp 4]) (vs := [iv ((-1))]) ⟨rfl, trivial⟩ ⟨rfl, rfl⟩ (.refl _) c

set_option maxRecDepth 20000 in
theorem cSlicesContains (b : Base) (R : Hp) (a : (List Bool)) (c : Bool) (d : OA) (e : Nat) (i : FZ RT.bool b.w d e a) (f : Bool) (hm : mSlicesContains a c = some f) :
    CallsG Try.prog 41 [sv d a e, bv c] b (R) (fun v b' hp' => bv f = v ∧ R = hp') := by
 refine fE 9 Try.func41 rfl Try.ntmps41 rfl ?_
 unfold mSlicesContains at hm
 refine Cr<|As rfl rfl<|Te<|Cr<|M rfl rfl<|M rfl rfl ?_
 obtain ⟨g, j, hm⟩ := bS hm
 refine Do rfl (uW _ call54 rfl (fun w ho => cSlicesIndex _ [] a c d e (i.old ho) g j) (fun _ _ _ h => h.2.symm)) ?_
 rintro _ _ ⟨⟨_, rfl, _⟩, rfl⟩
 refine Ts rfl (q6 rfl rfl)<|As rfl rfl<|Te<|Ct ?_
 obtain rfl := o1 hm
 exact rM (rs := [.tmp 4]) (vs := [.bool (decide (0 ≤ g))]) ⟨rfl, trivial⟩ ⟨rfl, rfl⟩ (.refl _) lr

set_option maxRecDepth 20000 in
theorem clSlicesClone (A : Option Addr) (n c : Nat) (xs : List Value) (w : World) (hR : Rd w A xs) (hl : xs.length = n * 1) (hn : n * 8 ≤ 140737488355328 ∧ n ≤ 9223372036854775807) :
    CallsH Try.prog 27 [.slice A n c] w [] (fun v hp' => Seg0 3 1 v n xs hp') := by
  refine fn_enter 8 Try.func27 rfl Try.ntmps27 rfl ?_
  refine c_sr ?_
  refine t_as rfl rfl ?_
  refine t_ne ?_
  refine c_seq ?_
  refine c_sr ?_
  refine t_mv rfl rfl ?_
  refine t_bool rfl (st_eqnil rfl rfl sl42) (fun hc1 => ?_) (fun hc1 => ?_)
  ·
    refine t_ne ?_
    refine c_cond_t rfl ?_
    refine c_sr ?_
    refine t_as rfl rfl ?_
    refine t_ne ?_
    refine c_ret ?_
    refine x_then_ret ?_
    subst hc1
    obtain rfl := hR.none_nil
    obtain rfl : n = 0 := by simp at hl; omega
    refine x_drop (hp' := []) (by repeat (first | exact List.Sublist.refl _ | exact List.nil_sublist _ | exact List.sublist_append_left _ _ | exact List.sublist_append_right _ _ | exact (List.sublist_append_right _ _).trans (List.sublist_append_right _ _) | apply List.Sublist.cons_cons | apply List.Sublist.cons)) ?_
    exact ret1 (Base.Le.refl _) rfl rfl (Seg0.nil)
  ·
    refine t_ne ?_
    refine c_cond_f rfl ?_
    refine c_skip ?_
    refine x_then_normal ?_
    refine c_sr ?_
    refine t_do rfl (u_bslice (el := 3) [] [] rfl (fun _ => by kernel_rfl)) ?_
    rintro _ _ ⟨g0, rfl, rfl⟩
    refine t_mv rfl rfl ?_
    refine t_do rfl (u_app0 xs sl42 inf3 rfl (by decide) rfl rfl hl (fun w ho => hR.old ho) hn.2 hn.1) ?_
    rintro _ _ ⟨hs, rfl, hseg⟩
    refine t_as rfl rfl ?_
    refine t_ne ?_
    refine c_ret ?_
    refine x_drop (hp' := hs) (by repeat (first | exact List.Sublist.refl _ | exact List.nil_sublist _ | exact List.sublist_append_left _ _ | exact List.sublist_append_right _ _ | exact (List.sublist_append_right _ _).trans (List.sublist_append_right _ _) | apply List.Sublist.cons_cons | apply List.Sublist.cons)) ?_
    exact ret1 (Base.Le.refl _) rfl rfl hseg

set_option maxRecDepth 20000 in
theorem cSlicesClone (b : Base) (R : Hp) (c : (List Int)) (d : OA) (e : Nat) (i : FZ rI b.w d e c) (a : (List Int)) (hm : mSlicesClone c = some a) :
    CallsG Try.prog 27 [sv d c e] b (R) (fun v b' hp' => ∃ (f : OA), ∃ (g : Nat), ∃ (h : Hp), sv f a g = v ∧ (h ++ R) = hp' ∧ OS 3 (OT.fr rI) b'.w (sv f a g) a h) := by
 unfold mSlicesClone at hm
 obtain ⟨_, hroom, hm⟩ := bS hm
 have hroom := room_some hroom
 obtain rfl := o1 hm
 exact clone_of (r := rI) (sz := 1) (by_ := 8) rfl (by decide) clSlicesClone i hroom

set_option maxRecDepth 20000 in
theorem cFleetJudge_1 (b : Base) (R : Hp) (o : Int) (a : Int) (c : Int) (d : Int) (e : Int) (f : Int) (g : Int) (h : Int) (i : Int) (p : Int) (j : Nat) (k : Nat) (l : Nat) (q : Int) (hm : mFleetJudge_1 o a c d e f g h i p = some q) :
    CallsG Try.prog 50 [iv o, pb j, pb k, pb l] b ((j, Cl 3 [iv a]) :: (k, Cl 27 [iv c, iv d, iv e, iv f, iv g, iv h, iv i]) :: (l, Cl 3 [iv p]) :: R) (fun v b' hp' => .tuple #[] = v ∧ (j, Cl 3 [iv a]) :: (k, Cl 27 [iv c, iv d, iv e, iv f, iv g, iv h, iv i]) :: (l, Cl 3 [iv q]) :: R = hp') := by
 refine fE 11 Try.func50 rfl Try.ntmps50 rfl ?_
 unfold mFleetJudge_1 at hm
 refine Cr<|M rfl rfl<|Ts rfl (sL 0 rfl one3 rfl rfl) ?_
 obtain ⟨_, m, hm⟩ := bS hm
 have m := (kS m).2
 refine Ts rfl (sb rfl rfl m)<|Ts rfl (sF rfl fld27_3)<|Ts rfl (sL 1 rfl one3 rfl rfl)<|Ts rfl (q5 rfl rfl)<|Te ?_
 refine Cc _ rfl (fun n => ?_) (fun n => ?_)
 rw [if_pos (of_decide_eq_true n)] at hm
 refine Cg<|Do rfl (uS 2 rfl rfl siz3 rfl rfl (by simp)) ?_
 rintro _ _ rfl
 refine Tn ?_
 obtain rfl := o1 hm
 refine Xp 2 rfl<|Xp 2 rfl<|Xp 2 rfl ?_
 exact endM lr rfl (.refl _) ⟨rfl, rfl⟩
 rw [if_neg (of_decide_eq_false n)] at hm
 refine Ck ?_
 obtain rfl := o1 hm
 refine Xp 2 rfl<|Xp 2 rfl<|Xp 2 rfl ?_
 exact endM lr rfl (.refl _) ⟨rfl, rfl⟩

set_option maxRecDepth 20000 in
theorem cFleetJudge (b : Base) (R : Hp) (p : (List FleetTask)) (g : (List Int)) (a : FleetLimits) (w : OA) (x : Nat) (l : OA) (m : Nat) (B : FZ rFleetTask b.w w x p) (y : FZ rI b.w l m g) (aq : Int) (hm : mFleetJudge p g a = some aq) :
    CallsG Try.prog 35 [sv w p x, sv l g m, .agg #[iv a.Change, iv a.Long, iv a.Work, iv a.After, iv a.Break, iv a.Rest, iv a.Row]] b (R) (fun v b' hp' => iv aq = v ∧ R = hp') := by
 refine fE 121 Try.func35 rfl Try.ntmps35 rfl ?_
 unfold mFleetJudge at hm
 refine Cr<|Do rfl (uB _ rfl rfl) ?_
 rintro _ _ ⟨f, rfl, rfl⟩
 refine As rfl rfl<|Te ?_
 obtain ⟨⟨F, G, H, I, J, K, L, O, S, z, T, U⟩, aC, aD⟩ := bS hm
 refine Cj (fun V e' hp' => ∃ (n : Nat), ∃ (o : Nat), [(0, sv w p x), (1, sv l g m), (5, pb f), (7, pb n), (8, pb o)] = e' ∧ (f, Cl 27 [iv a.Change, iv a.Long, iv a.Work, iv a.After, iv a.Break, iv a.Rest, iv a.Row]) :: (n, Cl 39 [iv F, iv G, iv H, iv I, iv J, iv K]) :: (o, Cl 39 [iv L, iv O, iv S, iv z, iv T, iv U]) :: R = hp' ∧ b.Le V) ?_ ?_
 have hm := aC
 obtain ⟨bP, aE, hm⟩ := bS hm
 obtain ⟨q, aF, hm⟩ := bS hm
 obtain ⟨_, W, hm⟩ := bS hm
 obtain ⟨bQ, aG, hm⟩ := bS hm
 obtain ⟨r, aH, hm⟩ := bS hm
 refine Di mixed (.refl _)<|E0 0 rfl (sM rfl)<|E0 1 rfl (sM rfl) ?_
 obtain ⟨aI, aJ, aK⟩ := iS aE
 obtain ⟨bR, aL, aM, aN, aO⟩ := FZ.get (sz := 1) rfl (by decide) y aK
 obtain rfl := aL
 refine E0 2 rfl (sI aI rfl rfl aJ aO aN sl42)<|Es 3 rfl (sO rfl one3 (aM 0 _ rfl)) ?_
 obtain ⟨aP, aQ, aR⟩ := iS aF
 obtain ⟨bT, aS, aT, ar, aU⟩ := FZ.get (sz := 6) rfl (by decide) B aR
 obtain ⟨_, _, rfl, rfl, ⟨_, _, rfl, rfl, ⟨_, _, rfl, rfl, ⟨_, _, rfl, rfl, ⟨_, _, rfl, rfl, rfl⟩⟩⟩⟩⟩ := aS
 refine E0 4 rfl (sI aP rfl rfl aQ aU ar sl32)<|Es 5 rfl (sP (vs := [iv q.From, iv q.To, iv q.Dep, iv q.Arr, iv q.Km, iv q.Units]) 6 rfl agg39 ar rfl (fun j u hu => aT j u hu))<|E0 6 rfl (sM rfl)<|E0 7 rfl (sM rfl)<|E0 8 rfl (sM rfl)<|E0 9 rfl (sE rfl sl42) ?_
 have W := (kS W).2
 refine E0 10 rfl (sb rfl rfl W) ?_
 obtain ⟨aV, aW, aX⟩ := iS aG
 obtain ⟨bU, aY, aZ, a0, a1⟩ := FZ.get (sz := 1) rfl (by decide) y aX
 obtain rfl := aY
 refine E0 11 rfl (sI aV rfl rfl aW a1 a0 sl42)<|Es 12 rfl (sO rfl one3 (aZ 0 _ rfl)) ?_
 obtain ⟨a2, a3, a4⟩ := iS aH
 obtain ⟨bV, a5, a6, au, a7⟩ := FZ.get (sz := 6) rfl (by decide) B a4
 obtain ⟨_, _, rfl, rfl, ⟨_, _, rfl, rfl, ⟨_, _, rfl, rfl, ⟨_, _, rfl, rfl, ⟨_, _, rfl, rfl, rfl⟩⟩⟩⟩⟩ := a5
 refine E0 13 rfl (sI a2 rfl rfl a3 a7 au sl32)<|Es 14 rfl (sP (vs := [iv r.From, iv r.To, iv r.Dep, iv r.Arr, iv r.Km, iv r.Units]) 6 rfl agg39 au rfl (fun j u hu => a6 j u hu))<|Eo<|Da [15, 16] (by kernel_rfl) rfl ?_
 refine Rd2 lr rfl rfl (uA [iv 0, iv 0, iv 0, iv 0, iv 0, iv 0] zero39 rfl) ?_ ?_
 rintro _ _ ⟨X, rfl, rfl⟩
 refine ⟨.inr (.cons _ (.refl _)), ?_⟩
 refine Da [16] (by kernel_rfl) rfl ?_
 refine Rd2 lr rfl rfl (uA [iv 0, iv 0, iv 0, iv 0, iv 0, iv 0] zero39 rfl) ?_ ?_
 rintro _ _ ⟨Y, rfl, rfl⟩
 refine ⟨.inr (.cons _ (.cons _ (.refl _))), ?_⟩
 refine Da [17] (by kernel_rfl) rfl ?_
 refine Rd2 lr rfl rfl (uN (vs := [_, _, _, _, _, _]) 1 6 rfl rfl rfl siz39 rfl (mc rfl (mc rfl (mc rfl (mc rfl (mc rfl (mc rfl mn)))))) rfl (by simp)) ?_ ?_
 rintro _ _ rfl
 refine ⟨.inr (.cons _ (.cons _ (.refl _))), ?_⟩
 refine Da [18] (by kernel_rfl) rfl ?_
 refine Rd2 lr rfl rfl (uN (vs := [_, _, _, _, _, _]) 0 6 rfl rfl rfl siz39 rfl (mc rfl (mc rfl (mc rfl (mc rfl (mc rfl (mc rfl mn)))))) rfl (by simp)) ?_ ?_
 rintro _ _ rfl
 refine ⟨.inl (by kernel_rfl), ?_⟩
 refine Dd (by kernel_rfl) ?_
 obtain ⟨rfl, rfl, rfl, rfl, rfl, rfl, rfl, rfl, rfl, rfl, rfl, rfl⟩ := some12 hm
 refine Xp 1 rfl<|Xp 2 rfl ?_
 exact xJ ⟨X, Y, rfl, rfl, lr⟩ (.refl _)
 exact Rn
 exact Rn
 exact Rn
 refine Rd2 lr rfl rfl (uA [iv 0, iv 0, iv 0, iv 0, iv 0, iv 0] zero39 rfl) ?_ ?_
 rintro _ _ ⟨Y, rfl, rfl⟩
 refine ⟨.inr (.cons _ (.refl _)), ?_⟩
 refine Da [15] (by kernel_rfl) rfl ?_
 refine Rd2 lr rfl rfl (uA [iv 0, iv 0, iv 0, iv 0, iv 0, iv 0] zero39 rfl) ?_ ?_
 rintro _ _ ⟨X, rfl, rfl⟩
 refine ⟨.inr (.cons _ (.cons _ (.refl _))), ?_⟩
 refine Da [17] (by kernel_rfl) rfl ?_
 refine Rd2 lr rfl rfl (uN (vs := [_, _, _, _, _, _]) 0 6 rfl rfl rfl siz39 rfl (mc rfl (mc rfl (mc rfl (mc rfl (mc rfl (mc rfl mn)))))) rfl (by simp)) ?_ ?_
 rintro _ _ rfl
 refine ⟨.inr (.cons _ (.cons _ (.refl _))), ?_⟩
 refine Da [18] (by kernel_rfl) rfl ?_
 refine Rd2 lr rfl rfl (uN (vs := [_, _, _, _, _, _]) 1 6 rfl rfl rfl siz39 rfl (mc rfl (mc rfl (mc rfl (mc rfl (mc rfl (mc rfl mn)))))) rfl (by simp)) ?_ ?_
 rintro _ _ rfl
 refine ⟨.inl (by kernel_rfl), ?_⟩
 refine Dd (by kernel_rfl) ?_
 obtain ⟨rfl, rfl, rfl, rfl, rfl, rfl, rfl, rfl, rfl, rfl, rfl, rfl⟩ := some12 hm
 refine Xp 1 rfl<|Xp 1 rfl<|Xp 2 rfl ?_
 exact xJ ⟨X, Y, rfl, rfl, lr⟩ (.refl _)
 exact Rn
 exact Rn
 exact Rn
 exact Rn
 rintro V _ _ ⟨n, o, rfl, rfl, h⟩
 have hm := (unc12E aD)
 refine Cr<|Do rfl (uA [iv 0] zero3 rfl) ?_
 rintro _ _ ⟨i, rfl, rfl⟩
 refine As rfl rfl<|Do rfl (uS 0 rfl rfl siz3 rfl rfl (by simp)) ?_
 rintro _ _ rfl
 refine Te<|Cr<|Ts rfl (sF rfl fld39_2)<|Ts rfl (sL 2 rfl one3 rfl rfl)<|Do rfl (uA [iv 0] zero3 rfl) ?_
 rintro _ _ ⟨k, rfl, rfl⟩
 refine Do rfl (uS 0 rfl rfl siz3 rfl rfl (by simp)) ?_
 rintro _ _ rfl
 refine Te<|Cr<|Ts rfl (st_func _ _ rfl rfl)<|As rfl rfl<|Te<|Cs<|Cr<|M rfl rfl<|Ts rfl (sE rfl sl42)<|M rfl rfl ?_
 refine Te<|Cb ?_
 have bW : g.length ≤ 9223372036854775807 := (FZ.bd (y.le h))
 refine Cp 1 rfl<|Cp 4 rfl<|Cp 4 rfl<|Cp 4 rfl ?_
 obtain ⟨bX, a8, C⟩ := bS hm
 refine cF (fun Z => unc3 fun D s t => fun E e' hp' => [(0, sv w p x), (1, sv l g m), (5, pb f), (7, pb n), (8, pb o), (9, iv D), (10, pb i), (11, pb k), (12, .func (.func 50) #[] #[pb k, pb f, pb i]), (35, sv l g m), (36, iv ((g.length : Int))), (37, iv ((Z : Int)))] = e' ∧ (f, Cl 27 [iv a.Change, iv a.Long, iv a.Work, iv a.After, iv a.Break, iv a.Rest, iv a.Row]) :: (n, Cl 39 [iv F, iv G, iv H, iv I, iv J, iv K]) :: (o, Cl 39 [iv L, iv O, iv S, iv z, iv T, iv U]) :: (i, Cl 3 [iv s]) :: (k, Cl 3 [iv t]) :: R = hp' ∧ V.Le E) a8 ⟨rfl, rfl, lr⟩ (.refl _) ?_ ?_
 rintro Z ⟨D, s, t⟩ E _ _ bY bZ ⟨rfl, rfl, c⟩ av a9
 unfold mFleetJudge_L603 at av
 have hm := (unc3E av)
 refine Cr<|Ts rfl (lT rfl rfl (by omega))<|Te<|Cs<|c_cond_t rfl<|Ck<|Xn<|Cs<|Cb<|Cr ?_
 refine M rfl rfl ?_
 obtain ⟨b0, ba, hm⟩ := bS hm
 obtain ⟨bb, bc, bd⟩ := iS ba
 obtain ⟨b1, be, bf, bg, bh⟩ := FZ.get (sz := 1) rfl (by decide) (y.le (h.trans c)) bd
 obtain rfl := be
 refine Ts rfl (sI bb rfl rfl bc bh bg sl42)<|Ts rfl (sO rfl one3 (bf 0 _ rfl))<|As rfl rfl<|As rfl rfl<|Te<|Cr<|M rfl rfl<|M rfl rfl ?_
 obtain ⟨d, bi, hm⟩ := bS hm
 obtain ⟨bj, bk, bl⟩ := iS bi
 obtain ⟨b2, bm, bn, aw, bo⟩ := FZ.get (sz := 6) rfl (by decide) (B.le (h.trans c)) bl
 obtain ⟨_, _, rfl, rfl, ⟨_, _, rfl, rfl, ⟨_, _, rfl, rfl, ⟨_, _, rfl, rfl, ⟨_, _, rfl, rfl, rfl⟩⟩⟩⟩⟩ := bm
 refine Ts rfl (sI bj rfl rfl bk bo aw sl32)<|Ts rfl (sP (vs := [iv d.From, iv d.To, iv d.Dep, iv d.Arr, iv d.Km, iv d.Units]) 6 rfl agg39 aw rfl (fun j u hu => bn j u hu))<|Do rfl (uA [iv 0, iv 0, iv 0, iv 0, iv 0, iv 0] zero39 rfl) ?_
 rintro _ _ ⟨ax, rfl, rfl⟩
 refine Do rfl (uN (vs := [_, _, _, _, _, _]) 0 6 rfl rfl rfl siz39 rfl (mc rfl (mc rfl (mc rfl (mc rfl (mc rfl (mc rfl mn)))))) rfl (by simp)) ?_
 rintro _ _ rfl
 refine Te<|Cr<|M rfl rfl<|Ts rfl (sF rfl fld39_3)<|Ts rfl (sL 0 rfl one3 rfl rfl)<|Ts rfl (sF rfl fld39_2)<|Ts rfl (sL 0 rfl one3 rfl rfl) ?_
 obtain ⟨_, aa, hm⟩ := bS hm
 have aa := (kS aa).2
 refine Ts rfl (sb rfl rfl aa) ?_
 obtain ⟨_, ab, hm⟩ := bS hm
 have ab := (kS ab).2
 refine Ts rfl (sa rfl rfl ab)<|As rfl rfl<|Te<|Cs<|Cr<|M rfl rfl<|Ts rfl (q1 rfl rfl)<|Te ?_
 refine Cc _ rfl (fun ac => ?_) (fun ac => ?_)
 rw [if_pos (of_decide_eq_true ac)] at hm
 refine Ce<|Xe<|Xo<|Xn<|Cg<|Ts rfl (sa rfl rfl (by omega))<|M rfl rfl<|Tn<|Xp 5 rfl<|Xp 5 rfl ?_
 refine Xp 5 rfl<|Xp 5 rfl<|Xp 5 rfl ?_
 exact xM hm ⟨rfl, rfl, (c)⟩ (.cons_cons _ (.cons_cons _ (.cons_cons _ (.cons_cons _ (.cons_cons _ (.cons _ (.refl _)))))))
 rw [if_neg (of_decide_eq_false ac)] at hm
 refine Ck<|Xn<|Cr<|M rfl rfl<|M rfl rfl<|M rfl rfl ?_
 obtain ⟨_, ad, hm⟩ := bS hm
 have ad := (kS ad).2
 refine Ts rfl (sb rfl rfl ad) ?_
 obtain ⟨b3, bp, hm⟩ := bS hm
 obtain ⟨bq, br, bs⟩ := iS bp
 obtain ⟨b4, bt, bu, bw, bx⟩ := FZ.get (sz := 1) rfl (by decide) (y.le (h.trans c)) bs
 obtain rfl := bt
 refine Ts rfl (sI bq rfl rfl br bx bw sl42)<|Ts rfl (sO rfl one3 (bu 0 _ rfl)) ?_
 obtain ⟨e, bz, hm⟩ := bS hm
 obtain ⟨bA, bB, bC⟩ := iS bz
 obtain ⟨b5, bD, bE, ay, bF⟩ := FZ.get (sz := 6) rfl (by decide) (B.le (h.trans c)) bC
 obtain ⟨_, _, rfl, rfl, ⟨_, _, rfl, rfl, ⟨_, _, rfl, rfl, ⟨_, _, rfl, rfl, ⟨_, _, rfl, rfl, rfl⟩⟩⟩⟩⟩ := bD
 refine Ts rfl (sI bA rfl rfl bB bF ay sl32)<|Ts rfl (sP (vs := [iv e.From, iv e.To, iv e.Dep, iv e.Arr, iv e.Km, iv e.Units]) 6 rfl agg39 ay rfl (fun j u hu => bE j u hu))<|Do rfl (uA [iv 0, iv 0, iv 0, iv 0, iv 0, iv 0] zero39 rfl) ?_
 rintro _ _ ⟨az, rfl, rfl⟩
 refine Do rfl (uN (vs := [_, _, _, _, _, _]) 0 6 rfl rfl rfl siz39 rfl (mc rfl (mc rfl (mc rfl (mc rfl (mc rfl (mc rfl mn)))))) rfl (by simp)) ?_
 rintro _ _ rfl
 refine Te<|Cs ?_
 obtain ⟨bG, bH, bI⟩ := bS hm
 refine Cj (fun aA e' hp' => [(0, sv w p x), (1, sv l g m), (5, pb f), (7, pb n), (8, pb o), (9, iv (D + (d.Arr - d.Dep))), (10, pb i), (11, pb k), (12, .func (.func 50) #[] #[pb k, pb f, pb i]), (15, pb ax), (16, pb az), (35, sv l g m), (36, iv ((g.length : Int))), (37, iv ((Z : Int))), (77, bv bG)] = e' ∧ (f, Cl 27 [iv a.Change, iv a.Long, iv a.Work, iv a.After, iv a.Break, iv a.Rest, iv a.Row]) :: (n, Cl 39 [iv F, iv G, iv H, iv I, iv J, iv K]) :: (o, Cl 39 [iv L, iv O, iv S, iv z, iv T, iv U]) :: (i, Cl 3 [iv s]) :: (k, Cl 3 [iv t]) :: (ax, Cl 39 [iv d.From, iv d.To, iv d.Dep, iv d.Arr, iv d.Km, iv d.Units]) :: (az, Cl 39 [iv e.From, iv e.To, iv e.Dep, iv e.Arr, iv e.Km, iv e.Units]) :: R = hp' ∧ E.Le aA) ?_ ?_
 have hm := bH
 refine Cg<|Ts rfl (sF rfl fld39_0)<|Ts rfl (sL 1 rfl one3 rfl rfl)<|Ts rfl (sF rfl fld39_1)<|Ts rfl (sL 0 rfl one3 rfl rfl) ?_
 refine Tb rfl (q2 rfl rfl) (fun ae => ?_) (fun ae => ?_)
 rw [if_pos ae] at hm
 refine M rfl rfl<|No 68 rfl rfl rfl rfl rfl<|No 68 rfl rfl rfl rfl rfl<|No 68 rfl rfl rfl rfl rfl<|No 68 rfl rfl rfl rfl rfl<|No 68 rfl rfl rfl rfl rfl<|No 68 rfl rfl rfl rfl rfl<|No 68 rfl rfl rfl rfl rfl<|No 68 rfl rfl rfl rfl rfl<|Ts rfl (pT rfl rfl) ?_
 refine Tn ?_
 obtain rfl := o1 hm
 refine Xp 1 rfl<|Xp 6 rfl<|Xp 6 rfl<|Xp 6 rfl<|Xp 6 rfl<|Xp 6 rfl ?_
 exact xJ ⟨rfl, rfl, lr⟩ (.refl _)
 rw [if_neg ae] at hm
 refine M rfl rfl<|Ys 68 rfl rfl rfl<|Ts rfl (sF rfl fld39_2)<|Ys 68 rfl rfl rfl<|Ts rfl (sL 1 rfl one3 rfl rfl)<|Ys 68 rfl rfl rfl<|Ts rfl (sF rfl fld39_3)<|Ys 68 rfl rfl rfl<|Ts rfl (sL 0 rfl one3 rfl rfl)<|Ys 68 rfl rfl rfl ?_
 refine Ts rfl (sF rfl fld27_0)<|Ys 68 rfl rfl rfl<|Ts rfl (sL 2 rfl one3 rfl rfl)<|Ys 68 rfl rfl rfl ?_
 obtain ⟨_, af, hm⟩ := bS hm
 have af := (kS af).2
 refine Ts rfl (sa rfl rfl af)<|Ys 68 rfl rfl rfl<|Ts rfl (q3 rfl rfl)<|Ts rfl (pF rfl rfl)<|Tn ?_
 obtain rfl := o1 hm
 refine Xp 1 rfl<|Xp 6 rfl<|Xp 6 rfl<|Xp 6 rfl<|Xp 6 rfl<|Xp 6 rfl ?_
 exact xJ ⟨rfl, rfl, lr⟩ (.refl _)
 rintro aA _ _ ⟨rfl, rfl, ag⟩
 have hm := bI
 refine Cc _ rfl (fun ah => ?_) (fun ah => ?_)
 rw [if_pos ah] at hm
 refine Cr<|As rfl rfl<|Te<|Ct<|Xr<|Xb<|Xr<|Xr<|Xb<|Xr ?_
 have bJ := a9 _ (Option.some.inj hm).symm
 rw [bJ] at C
 have hm := elimR C
 obtain rfl := o1 hm
 exact rM (rs := [.tmp 6]) (vs := [iv 1]) ⟨rfl, trivial⟩ ⟨rfl, rfl⟩ (.cons _ (.cons _ (.cons _ (.cons _ (.cons _ (.cons _ (.cons _ (.refl _)))))))) (h.trans (c.trans ag))
 rw [if_neg (fun hh => Bool.noConfusion (hh.symm.trans ah))] at hm
 refine Ck<|Xn<|Cr<|Ts rfl (sF rfl fld39_2)<|Ts rfl (sL 5 rfl one3 rfl rfl)<|Ts rfl (sF rfl fld39_3)<|Ts rfl (sL 6 rfl one3 rfl rfl) ?_
 obtain ⟨_, ai, hm⟩ := bS hm
 have ai := (kS ai).2
 refine Ts rfl (sb rfl rfl ai)<|Ts rfl (sF rfl fld27_4)<|Ts rfl (sL 0 rfl one3 rfl rfl)<|Ts rfl (q6 rfl rfl)<|Te ?_
 refine Cc _ rfl (fun aj => ?_) (fun aj => ?_)
 rw [if_pos (of_decide_eq_true aj)] at hm
 refine Cr<|M rfl rfl<|Ts rfl (sF rfl fld39_3)<|Ts rfl (sL 6 rfl one3 rfl rfl) ?_
 obtain ⟨bK, bL, hm⟩ := bS hm
 refine t_pullb 3 rfl<|t_pullb 1 rfl<|t_pullb 4 rfl<|Tv #[] #[pb k, pb f, pb i] [iv e.Arr] rfl rfl call50 rfl (cFleetJudge_1 _ _ e.Arr t a.Change a.Long a.Work a.After a.Break a.Rest a.Row s k f i bK bL) ?_
 rintro _ b6 _ bM ⟨rfl, rfl⟩
 refine Te<|Cg<|Ts rfl (sF rfl fld39_2)<|Ts rfl (sL 5 rfl one3 rfl rfl)<|Do rfl (uS 0 rfl rfl siz3 rfl rfl (by simp)) ?_
 rintro _ _ rfl
 refine Tn<|Xm<|Xn<|Cg<|Ts rfl (sa rfl rfl (by omega))<|M rfl rfl<|Tn<|Xp 2 rfl<|Xp 4 rfl<|Xp 4 rfl ?_
 refine Xp 4 rfl ?_
 exact xM hm ⟨rfl, rfl, ((c.trans (ag.trans bM)))⟩ (.cons_cons _ (.cons_cons _ (.cons_cons _ (.cons_cons _ (.cons_cons _ (.cons _ (.cons _ (.refl _))))))))
 rw [if_neg (of_decide_eq_false aj)] at hm
 refine Ck<|Xm<|Xn<|Cg<|Ts rfl (sa rfl rfl (by omega))<|M rfl rfl<|Tn<|Xp 4 rfl<|Xp 4 rfl<|Xp 4 rfl ?_
 refine Xp 4 rfl<|Xp 4 rfl ?_
 exact xM hm ⟨rfl, rfl, ((c.trans ag))⟩ (.cons_cons _ (.cons_cons _ (.cons_cons _ (.cons_cons _ (.cons_cons _ (.cons _ (.cons _ (.refl _))))))))
 rintro ⟨D, s, t⟩ E _ _ ⟨rfl, rfl, c⟩ bN
 rw [bN] at C
 have hm := elimL C
 have hm := (unc3E hm)
 refine Cr<|Ts rfl (lF rfl rfl (by omega))<|Te<|Cs<|c_cond_f rfl<|Ce<|Xe<|Xe<|Xo<|Xn ?_
 refine Cr<|M rfl rfl<|Ts rfl (sF rfl fld39_3)<|Ts rfl (sL 2 rfl one3 rfl rfl) ?_
 obtain ⟨aB, bO, hm⟩ := bS hm
 refine t_pullb 3 rfl<|t_pullb 1 rfl<|t_pullb 4 rfl<|Tv #[] #[pb k, pb f, pb i] [iv z] rfl rfl call50 rfl (cFleetJudge_1 _ _ z t a.Change a.Long a.Work a.After a.Break a.Rest a.Row s k f i aB bO) ?_
 rintro _ b7 _ A ⟨rfl, rfl⟩
 refine Te<|Cs<|Cb<|Cr<|Ts rfl (sF rfl fld39_3)<|Ts rfl (sL 4 rfl one3 rfl rfl)<|Ts rfl (sF rfl fld39_2)<|Ts rfl (sL 3 rfl one3 rfl rfl) ?_
 obtain ⟨_, ak, hm⟩ := bS hm
 have ak := (kS ak).2
 refine Ts rfl (sb rfl rfl ak)<|Ts rfl (sF rfl fld27_1)<|Ts rfl (sL 1 rfl one3 rfl rfl)<|Ts rfl (q5 rfl rfl)<|As rfl rfl<|Te ?_
 refine Cc _ rfl (fun al => ?_) (fun al => ?_)
 rw [if_pos (of_decide_eq_true al)] at hm
 refine Cr<|As rfl rfl<|Te<|Ct<|Xb<|Xr ?_
 obtain rfl := o1 hm
 exact rM (rs := [.tmp 6]) (vs := [iv 2]) ⟨rfl, trivial⟩ ⟨rfl, rfl⟩ (.cons _ (.cons _ (.cons _ (.cons _ (.cons _ (.refl _)))))) (h.trans (c.trans A))
 rw [if_neg (of_decide_eq_false al)] at hm
 refine Cr<|M rfl rfl<|Ts rfl (sF rfl fld27_2)<|Ts rfl (sL 1 rfl one3 rfl rfl)<|Ts rfl (q5 rfl rfl)<|As rfl rfl<|Te ?_
 refine Cc _ rfl (fun am => ?_) (fun am => ?_)
 rw [if_pos (of_decide_eq_true am)] at hm
 refine Cr<|As rfl rfl<|Te<|Ct<|Xb<|Xr ?_
 obtain rfl := o1 hm
 exact rM (rs := [.tmp 6]) (vs := [iv 3]) ⟨rfl, trivial⟩ ⟨rfl, rfl⟩ (.cons _ (.cons _ (.cons _ (.cons _ (.cons _ (.refl _)))))) (h.trans (c.trans A))
 rw [if_neg (of_decide_eq_false am)] at hm
 refine Cr<|Ts rfl (sL 2 rfl one3 rfl rfl)<|Ts rfl (q5 rfl rfl)<|As rfl rfl<|Te ?_
 refine Cc _ rfl (fun an => ?_) (fun an => ?_)
 rw [if_pos (of_decide_eq_true an)] at hm
 refine Cr<|Ts rfl (sL 2 rfl one3 rfl rfl)<|As rfl rfl<|Te<|Ct<|Xb<|Xr ?_
 obtain rfl := o1 hm
 exact rM (rs := [.tmp 6]) (vs := [iv aB]) ⟨rfl, trivial⟩ ⟨rfl, rfl⟩ (.cons _ (.cons _ (.cons _ (.cons _ (.cons _ (.refl _)))))) (h.trans (c.trans A))
 rw [if_neg (of_decide_eq_false an)] at hm
 refine Cr<|Ts rfl (sF rfl fld39_1)<|Ts rfl (sL 4 rfl one3 rfl rfl)<|Ts rfl (sF rfl fld39_0)<|Ts rfl (sL 3 rfl one3 rfl rfl)<|Ts rfl (q2 rfl rfl)<|As rfl rfl<|Te ?_
 refine Cc _ rfl (fun ao => ?_) (fun ao => ?_)
 rw [if_pos (of_decide_eq_true ao)] at hm
 refine Cr<|As rfl rfl<|Te<|Ct<|Xb<|Xr ?_
 obtain rfl := o1 hm
 exact rM (rs := [.tmp 6]) (vs := [iv 5]) ⟨rfl, trivial⟩ ⟨rfl, rfl⟩ (.cons _ (.cons _ (.cons _ (.cons _ (.cons _ (.refl _)))))) (h.trans (c.trans A))
 rw [if_neg (of_decide_eq_false ao)] at hm
 refine Ck<|Xm<|Xn<|Cr<|As rfl rfl<|Te<|Ct ?_
 obtain rfl := o1 hm
 exact rM (rs := [.tmp 6]) (vs := [iv 0]) ⟨rfl, trivial⟩ ⟨rfl, rfl⟩ (.cons _ (.cons _ (.cons _ (.cons _ (.cons _ (.refl _)))))) (h.trans (c.trans A))

set_option maxRecDepth 20000 in
theorem cFleetDividerTake (rcmFleetDividerDivide : (Int) → (Int) → ((List Int)) → ((List FleetTask)) → (Int) → (Int) → (Int) → (Int) → (Int) → (Int) → (Int) → ((List Bool)) → ((List (List Int))) → Option (Bool × (List Bool) × (List (List Int)))) (ihmFleetDividerDivide : ∀ (b : Base) (R : Hp) (D : Int) (E : Int) (s : (List Int)) (aa : (List FleetTask)) (ak : Int) (h : Int) (k : Int) (m : Int) (n : Int) (o : Int) (p : Int) (T : (List Bool)) (f : (List (List Int))) (q : Nat) (y : OA) (F : Nat) (al : OA) (am : Nat) (d : OA) (e : Nat) (c : Hp) (t : OA) (x : Nat) (a : Hp) (an : FZ rI b.w y F s) (a9 : (y = none ↔ s = [])) (cm : FZ rFleetTask b.w al am aa) (L : OS 4 (OT.fr RT.bool) b.w (sv d T e) T c) (ab : OS 42 (OT.fr (RT.list rI)) b.w (sv t f x) f a) (aM : Bool) (U : (List Bool)) (ac : (List (List Int))) (hm : rcmFleetDividerDivide D E s aa ak h k m n o p T f = some (aM, U, ac)),
    CallsG Try.prog 19 [pb q, iv D, iv E, sv y s F] b ((q, Cl 65 [sv al aa am, iv ak, iv h, iv k, iv m, iv n, iv o, iv p, sv d T e, sv t f x]) :: (c ++ (a ++ R))) (fun v b' hp' => ∃ (aN : Hp), ∃ (aO : OA), ∃ (aP : Nat), ∃ (aQ : Hp), bv aM = v ∧ (q, Cl 65 [sv al aa am, iv ak, iv h, iv k, iv m, iv n, iv o, iv p, sv d U e, sv aO ac aP]) :: (aN ++ (aQ ++ R)) = hp' ∧ OS 4 (OT.fr RT.bool) b'.w (sv d U e) U aN ∧ U.length = T.length ∧ OS 42 (OT.fr (RT.list rI)) b'.w (sv aO ac aP) ac aQ)) (b : Base) (R : Hp) (D : Int) (E : Int) (s : (List Int)) (g : Int) (z : (List FleetTask)) (h : Int) (k : Int) (m : Int) (n : Int) (o : Int) (p : Int) (A : Int) (f : (List Bool)) (G : (List (List Int))) (q : Nat) (y : OA) (F : Nat) (B : OA) (C : Nat) (d : OA) (e : Nat) (c : Hp) (t : OA) (x : Nat) (a : Hp) (an : FZ rI b.w y F s) (a9 : (y = none ↔ s = [])) (V : FZ rFleetTask b.w B C z) (L : OS 4 (OT.fr RT.bool) b.w (sv d f e) f c) (ab : OS 42 (OT.fr (RT.list rI)) b.w (sv t G x) G a) (aR : Bool) (W : (List Bool)) (ad : (List (List Int))) (hm : mFleetDividerTake rcmFleetDividerDivide D E s g z h k m n o p A f G = some (aR, W, ad)) :
    CallsG Try.prog 42 [pb q, iv D, iv E, sv y s F, iv g] b ((q, Cl 65 [sv B z C, iv h, iv k, iv m, iv n, iv o, iv p, iv A, sv d f e, sv t G x]) :: (c ++ (a ++ R))) (fun v b' hp' => ∃ (aS : Hp), ∃ (aT : OA), ∃ (aU : Nat), ∃ (aV : Hp), bv aR = v ∧ (q, Cl 65 [sv B z C, iv h, iv k, iv m, iv n, iv o, iv p, iv A, sv d W e, sv aT ad aU]) :: (aS ++ (aV ++ R)) = hp' ∧ OS 4 (OT.fr RT.bool) b'.w (sv d W e) W aS ∧ W.length = f.length ∧ OS 42 (OT.fr (RT.list rI)) b'.w (sv aT ad aU) ad aV) := by
 refine fE 86 Try.func42 rfl Try.ntmps42 rfl ?_
 unfold mFleetDividerTake at hm
 refine Cr<|As rfl rfl<|Te<|Cs<|Cr<|M rfl rfl<|Ts rfl (sN rfl)<|Ts rfl (sF rfl fld65_2)<|Ts rfl (sL 0 rfl one63 rfl rfl)<|M rfl rfl ?_
 obtain ⟨cn, ba, hm⟩ := bS hm
 obtain ⟨bb, bc, bd⟩ := iS ba
 obtain ⟨co, cp, cq, cr, ct, be, bf, bg, bh, cu, cv⟩ := OS.get (sz := 1) rfl (by decide) L bd
 obtain ⟨rfl, rfl⟩ := be
 refine Ts rfl (sI bb rfl rfl bc bh bg sl63)<|Ts rfl (st_load_rd rfl one4 (fun w ho => bf w _ ho (.cons _ (List.sublist_append_left _ _)) 0 _ rfl))<|Te ?_
 refine Cc _ rfl (fun ao => ?_) (fun ao => ?_)
 rw [if_pos ao] at hm
 refine Cr<|As rfl rfl<|Te<|Ct<|Xr ?_
 obtain ⟨rfl, rfl, rfl⟩ := some3 hm
 refine X2 [_] c a R rfl<|X2 [_] a c R rfl ?_
 exact rM (rs := [.tmp 10]) (vs := [bv false]) ⟨rfl, trivial⟩ ⟨c, t, x, a, rfl, rfl, L, rfl, ab⟩ (.refl _) lr
 rw [if_neg (fun hh => Bool.noConfusion (hh.symm.trans ao))] at hm
 refine Ck<|Xn ?_
 obtain ⟨bi, bj, ae⟩ := bS hm
 refine Cj (fun aW e' hp' => [(0, pb q), (1, iv D), (2, iv E), (3, sv y s F), (4, iv g)] = e' ∧ (q, Cl 65 [sv B z C, iv h, iv k, iv m, iv n, iv o, iv p, iv A, sv d f e, sv t G x]) :: (c ++ (a ++ R)) = hp' ∧ b.Le aW ∧ bi = .inl ()) ?_ ?_
 have hm := bj
 refine Cr<|M rfl rfl<|Ts rfl (sE rfl sl42)<|As rfl rfl<|Te<|Cr<|M rfl rfl<|Ts rfl (q5 rfl rfl)<|Te ?_
 refine Cc _ rfl (fun aq => ?_) (fun aq => ?_)
 rw [if_pos (of_decide_eq_true aq)] at hm
 obtain ⟨⟨bk, aX, bl, bm, bn, bo⟩, bp, bq⟩ := bS hm
 refine Cj (fun ar e' hp' => ∃ (au : Nat), [(0, pb q), (1, iv D), (2, iv E), (3, sv y s F), (4, iv g), (12, pb au)] = e' ∧ (q, Cl 65 [sv B z C, iv h, iv k, iv m, iv n, iv o, iv p, iv A, sv d f e, sv t G x]) :: (au, Cl 39 [iv bk, iv aX, iv bl, iv bm, iv bn, iv bo]) :: (c ++ (a ++ R)) = hp' ∧ b.Le ar) ?_ ?_
 have hm := bp
 obtain ⟨_, av, hm⟩ := bS hm
 obtain ⟨cw, br, hm⟩ := bS hm
 obtain ⟨O, bs, hm⟩ := bS hm
 refine Di mixed (.refl _)<|E0 0 rfl (sM rfl)<|E0 1 rfl (sN rfl)<|E0 2 rfl (sF rfl fld65_0)<|Es 3 rfl (sL 0 rfl one32 rfl rfl)<|E0 4 rfl (sM rfl)<|E0 5 rfl (sM rfl) ?_
 have av := (kS av).2
 refine E0 6 rfl (sb rfl rfl av) ?_
 obtain ⟨bt, bu, bw⟩ := iS br
 obtain ⟨cx, bx, bz, bA, bB⟩ := FZ.get (sz := 1) rfl (by decide) an bw
 obtain rfl := bx
 refine E0 7 rfl (sI bt rfl rfl bu bB bA sl42)<|Es 8 rfl (sO rfl one3 (bz 0 _ rfl)) ?_
 obtain ⟨bC, bD, bE⟩ := iS bs
 obtain ⟨cy, bF, bG, aY, bH⟩ := FZ.get (sz := 6) rfl (by decide) V bE
 obtain ⟨_, _, rfl, rfl, ⟨_, _, rfl, rfl, ⟨_, _, rfl, rfl, ⟨_, _, rfl, rfl, ⟨_, _, rfl, rfl, rfl⟩⟩⟩⟩⟩ := bF
 refine E0 9 rfl (sI bC rfl rfl bD bH aY sl32)<|Es 10 rfl (sP (vs := [iv O.From, iv O.To, iv O.Dep, iv O.Arr, iv O.Km, iv O.Units]) 6 rfl agg39 aY rfl (fun j u hu => bG j u hu))<|Eo<|Da [11] (by kernel_rfl) rfl ?_
 refine Rd2 lr rfl rfl (uA [iv 0, iv 0, iv 0, iv 0, iv 0, iv 0] zero39 rfl) ?_ ?_
 rintro _ _ ⟨bI, rfl, rfl⟩
 refine ⟨.inr (.cons _ (.refl _)), ?_⟩
 refine Da [12] (by kernel_rfl) rfl ?_
 refine Rd2 lr rfl rfl (uN (vs := [_, _, _, _, _, _]) 0 6 rfl rfl rfl siz39 rfl (mc rfl (mc rfl (mc rfl (mc rfl (mc rfl (mc rfl mn)))))) rfl (by simp)) ?_ ?_
 rintro _ _ rfl
 refine ⟨.inl (by kernel_rfl), ?_⟩
 refine Dd (by kernel_rfl) ?_
 obtain ⟨rfl, rfl, rfl, rfl, rfl, rfl⟩ := some6 hm
 refine Xp 1 rfl<|X2 [_, _] c a R rfl<|X2 [_, _] a c R rfl ?_
 exact xJ ⟨bI, rfl, rfl, lr⟩ (.refl _)
 exact Rn
 exact Rn
 rintro ar _ _ ⟨au, rfl, rfl, I⟩
 have hm := (unc6E bq)
 obtain ⟨bJ, bK, bL⟩ := bS hm
 refine Cj (fun aZ e' hp' => [(0, pb q), (1, iv D), (2, iv E), (3, sv y s F), (4, iv g), (64, bv bJ)] = e' ∧ (q, Cl 65 [sv B z C, iv h, iv k, iv m, iv n, iv o, iv p, iv A, sv d f e, sv t G x]) :: (c ++ (a ++ R)) = hp' ∧ ar.Le aZ) ?_ ?_
 have hm := bK
 obtain ⟨bM, a0, hm⟩ := bS hm
 by_cases af : bM.From ≠ aX
 rw [if_pos af] at hm
 refine Di mixed (.refl _)<|E0 0 rfl (sM rfl)<|E0 1 rfl (sN rfl)<|E0 2 rfl (sF rfl fld65_0)<|Es 3 rfl (sL 0 rfl one32 rfl rfl)<|E0 4 rfl (sM rfl) ?_
 obtain ⟨aw, ax, ay⟩ := iS a0
 obtain ⟨bN, az, aA, X, aB⟩ := FZ.get (sz := 6) rfl (by decide) (V.le I) ay
 obtain ⟨_, _, rfl, rfl, ⟨_, _, rfl, rfl, ⟨_, _, rfl, rfl, ⟨_, _, rfl, rfl, ⟨_, _, rfl, rfl, rfl⟩⟩⟩⟩⟩ := az
 refine E0 5 rfl (sI aw rfl rfl ax aB X sl32)<|E0 6 rfl (sQ rfl X fld39_0)<|Es 7 rfl (sO rfl one3 (aA 0 _ rfl))<|E0 8 rfl (sF rfl fld39_1)<|Es 9 rfl (sL 1 rfl one3 rfl rfl)<|E0 10 rfl (st_neq_t rfl rfl af)<|E0 11 rfl (sM rfl)<|En 12 46 rfl rfl rfl<|En 13 46 rfl rfl rfl<|En 14 46 rfl rfl rfl ?_
 refine En 15 46 rfl rfl rfl<|En 16 46 rfl rfl rfl<|En 17 46 rfl rfl rfl<|En 18 46 rfl rfl rfl<|En 19 46 rfl rfl rfl<|En 20 46 rfl rfl rfl<|En 21 46 rfl rfl rfl<|En 22 46 rfl rfl rfl<|En 23 46 rfl rfl rfl<|En 24 46 rfl rfl rfl ?_
 refine En 25 46 rfl rfl rfl<|En 26 46 rfl rfl rfl<|En 27 46 rfl rfl rfl<|En 28 46 rfl rfl rfl<|E0 29 rfl (pT rfl rfl)<|Eo<|Dd (by kernel_rfl) ?_
 obtain rfl := o1 hm
 refine X2 [_, _] c a R rfl<|X2 [_, _] a c R rfl ?_
 exact xJ ⟨rfl, rfl, lr⟩ (.cons_cons _ (.cons _ (.refl _)))
 rw [if_neg af] at hm
 obtain ⟨cz, bO, hm⟩ := bS hm
 obtain ⟨_, aC, hm⟩ := bS hm
 refine Di mixed (.refl _)<|E0 0 rfl (sM rfl)<|E0 1 rfl (sN rfl)<|E0 2 rfl (sF rfl fld65_0)<|Es 3 rfl (sL 0 rfl one32 rfl rfl)<|E0 4 rfl (sM rfl) ?_
 obtain ⟨aw, ax, ay⟩ := iS a0
 obtain ⟨bN, az, aA, X, aB⟩ := FZ.get (sz := 6) rfl (by decide) (V.le I) ay
 obtain ⟨_, _, rfl, rfl, ⟨_, _, rfl, rfl, ⟨_, _, rfl, rfl, ⟨_, _, rfl, rfl, ⟨_, _, rfl, rfl, rfl⟩⟩⟩⟩⟩ := az
 refine E0 5 rfl (sI aw rfl rfl ax aB X sl32)<|E0 6 rfl (sQ rfl X fld39_0)<|Es 7 rfl (sO rfl one3 (aA 0 _ rfl))<|E0 8 rfl (sF rfl fld39_1)<|Es 9 rfl (sL 1 rfl one3 rfl rfl)<|E0 10 rfl (st_neq_f rfl rfl af)<|E0 11 rfl (sM rfl)<|Yz 12 46 rfl (sM rfl)<|Yz 13 46 rfl (sN rfl)<|Yz 14 46 rfl (sF rfl fld65_0) ?_
 refine Ey 15 46 rfl (sL 0 rfl one32 rfl rfl)<|Yz 16 46 rfl (sM rfl) ?_
 obtain ⟨bP, bQ, bR⟩ := iS bO
 obtain ⟨cA, bT, bU, a1, bV⟩ := FZ.get (sz := 6) rfl (by decide) (V.le I) bR
 obtain ⟨_, _, rfl, rfl, ⟨_, _, rfl, rfl, ⟨_, _, rfl, rfl, ⟨_, _, rfl, rfl, ⟨_, _, rfl, rfl, rfl⟩⟩⟩⟩⟩ := bT
 refine Yz 17 46 rfl (sI bP rfl rfl bQ bV a1 sl32)<|Yz 18 46 rfl (sQ rfl a1 fld39_2)<|Ey 19 46 rfl (sO rfl one3 (bU 2 _ rfl))<|Yz 20 46 rfl (sF rfl fld39_3)<|Ey 21 46 rfl (sL 1 rfl one3 rfl rfl)<|Yz 22 46 rfl (sM rfl)<|Yz 23 46 rfl (sN rfl)<|Yz 24 46 rfl (sF rfl fld65_1)<|Yz 25 46 rfl (sF rfl fld27_0)<|Ey 26 46 rfl (sL 0 rfl one3 rfl rfl) ?_
 have aC := (kS aC).2
 refine Yz 27 46 rfl (sa rfl rfl aC)<|Yz 28 46 rfl (q3 rfl rfl)<|E0 29 rfl (pF rfl rfl)<|Eo<|Dd (by kernel_rfl) ?_
 obtain rfl := o1 hm
 refine X2 [_, _] c a R rfl<|X2 [_, _] a c R rfl ?_
 exact xJ ⟨rfl, rfl, lr⟩ (.cons_cons _ (.cons _ (.refl _)))
 rintro aZ _ _ ⟨rfl, rfl, ag⟩
 have hm := bL
 refine Cc _ rfl (fun aD => ?_) (fun aD => ?_)
 rw [if_pos aD] at hm
 refine Cr<|As rfl rfl<|Te<|Ct<|Xr ?_
 have bW := (Option.some.inj hm).symm
 rw [bW] at ae
 have hm := elimR ae
 obtain ⟨rfl, rfl, rfl⟩ := some3 hm
 refine X2 [_] c a R rfl<|X2 [_] a c R rfl ?_
 have bX := (L.le (I.trans ag))
 have bY := (ab.le (I.trans ag))
 exact rM (rs := [.tmp 10]) (vs := [bv false]) ⟨rfl, trivial⟩ ⟨c, t, x, a, rfl, rfl, bX, rfl, bY⟩ (.refl _) (I.trans ag)
 rw [if_neg (fun hh => Bool.noConfusion (hh.symm.trans aD))] at hm
 refine Ck ?_
 have hq := (Option.some.inj hm).symm
 refine X2 [_] c a R rfl<|X2 [_] a c R rfl ?_
 exact xJ ⟨rfl, rfl, (I.trans ag), hq⟩ (.refl _)
 rw [if_neg (of_decide_eq_false aq)] at hm
 refine Ck ?_
 have hq := (Option.some.inj hm).symm
 refine X2 [_] c a R rfl<|X2 [_] a c R rfl ?_
 exact xJ ⟨rfl, rfl, lr, hq⟩ (.refl _)
 rintro aW _ _ ⟨rfl, rfl, J, bZ⟩
 rw [bZ] at ae
 have hm := elimL ae
 refine Cr<|M rfl rfl<|Ts rfl (sN rfl)<|Ts rfl (sF rfl fld65_2)<|Ts rfl (sL 0 rfl one63 rfl rfl)<|M rfl rfl ?_
 obtain ⟨cB, b0, hm⟩ := bS hm
 obtain ⟨b1, a2, a3⟩ := iS b0
 obtain ⟨cC, cD, cE, cG, cH, b2, cI, b3, b4, cJ, cK⟩ := OS.get (sz := 1) rfl (by decide) (L.le J) a3
 obtain ⟨rfl, rfl⟩ := b2
 refine Ts rfl (sI b1 rfl rfl a2 b4 b3 sl63)<|Do rfl (uP a2 (sz := 1) (a' := true) rfl [_] (a ++ R) 0 1 [bv true] rfl (L.le J) a3 rfl rfl rfl siz4 rfl (mc rfl mn) (fun cs hsj hh => by obtain ⟨rfl, rfl⟩ := hh; exact ⟨by first | decide | exact Nat.le_refl _, rfl, rfl⟩)) ?_
 rintro _ _ ⟨K, rfl, b5⟩
 refine t_hresp 0 rfl (o' := Cl 65 [sv B z C, iv h, iv k, iv m, iv n, iv o, iv p, iv A, .slice d (put f g true).length e, sv t G x]) (by simp only [sv, put_length])<|Te<|Cs<|Cr<|M rfl rfl<|M rfl rfl<|M rfl rfl<|M rfl rfl ?_
 obtain ⟨Y, b6, hm⟩ := bS hm
 refine Tg _ rfl call27 rfl (cSlicesClone _ _ s y F (an.le J) Y b6) ?_
 rintro _ cM _ Z ⟨cN, cO, b7, rfl, rfl, b8⟩
 refine t_in1 [] [_] b7 (K ++ (a ++ R)) rfl<|M rfl rfl<|Do rfl (u_bslice (el := 3) [(0, iv g)] [iv g] rfl (fun _ => by kernel_rfl)) ?_
 rintro _ _ ⟨cP, rfl, rfl⟩
 obtain ⟨_, aE, hm⟩ := bS hm
 have aE := room_some aE
 refine Do rfl (uQ (r := rI) (l := Y) [_, _] (K ++ (a ++ R)) [[iv g]] [g] rfl (by decide) sl42 inf3 rfl rfl rfl rfl b8 rfl (fun w ho => Rd.own (i := 0) ho rfl) ⟨rfl, trivial⟩ aE) ?_
 rintro _ _ ⟨b9, rfl, aF⟩
 obtain ⟨a4, ca, rfl, _⟩ := aF.form
 have cb : (a4 = none ↔ Y ++ [g] = []) := (OS.nz aF (by simp))
 refine t_frz [_, _] b9 (K ++ (a ++ R)) rfl ?_
 intro cQ S cc
 have cd := OS.frz (l := Y ++ [g]) aF S.cells cc
 obtain ⟨⟨ce, aG, aH⟩, cf, hm⟩ := bS hm
 have hm := (unc3E hm)
 refine t_pullb 1 rfl<|t_front2 [_, _] K a R rfl<|t_front2 [_, _] a K R rfl<|t_out2 [_] [_] K a R rfl<|Tg _ rfl call19 rfl (ihmFleetDividerDivide _ _ D E (Y ++ [g]) z h k m n o p A (put f g true) G q a4 ca B C d e K t x a cd cb (V.le (J.trans (Z.trans S))) (b5.le (Z.trans S)) (ab.le (J.trans (Z.trans S))) ce aG aH cf) ?_
 rintro _ cR _ a5 ⟨ah, ai, aj, H, rfl, rfl, aI, aJ, a6⟩
 refine t_in2 [_] [_] ah H R rfl<|t_hresp 0 rfl (o' := Cl 65 [sv B z C, iv h, iv k, iv m, iv n, iv o, iv p, iv A, sv d aG e, sv ai aH aj]) (by simp only [sv, aJ])<|Te ?_
 refine Cc _ rfl (fun aK => ?_) (fun aK => ?_)
 rw [if_pos aK] at hm
 refine Cr<|As rfl rfl<|Te<|Ct<|Xr ?_
 obtain ⟨rfl, rfl, rfl⟩ := some3 hm
 refine X2 [_, _] ah H R rfl<|X2 [_, _] H ah R rfl ?_
 exact rM (rs := [.tmp 10]) (vs := [bv true]) ⟨rfl, trivial⟩ ⟨ah, ai, aj, H, rfl, rfl, aI, (aJ.trans ((put_length _ _ _).trans rfl)), a6⟩ (.cons_cons _ (.cons _ (.refl _))) (J.trans (Z.trans (S.trans a5)))
 rw [if_neg (fun hh => Bool.noConfusion (hh.symm.trans aK))] at hm
 refine Ck<|Xn<|Cr<|M rfl rfl<|Ts rfl (sN rfl)<|Ts rfl (sF rfl fld65_2)<|Ts rfl (sL 0 rfl one63 rfl rfl)<|M rfl rfl ?_
 obtain ⟨cT, cg, hm⟩ := bS hm
 obtain ⟨ch, a7, a8⟩ := iS cg
 obtain ⟨cU, cV, cW, cX, cY, ci, cZ, cj, ck, c0, c1⟩ := OS.get (sz := 1) rfl (by decide) aI a8
 obtain ⟨rfl, rfl⟩ := ci
 refine Ts rfl (sI ch rfl rfl a7 ck cj sl63)<|Do rfl (uP a7 (sz := 1) (a' := false) rfl [_, _] (H ++ R) 0 1 [bv false] rfl aI a8 rfl rfl rfl siz4 rfl (mc rfl mn) (fun cs hsj hh => by obtain ⟨rfl, rfl⟩ := hh; exact ⟨by first | decide | exact Nat.le_refl _, rfl, rfl⟩)) ?_
 rintro _ _ ⟨aL, rfl, cl⟩
 refine t_hresp 0 rfl (o' := Cl 65 [sv B z C, iv h, iv k, iv m, iv n, iv o, iv p, iv A, .slice d (put aG g false).length e, sv ai aH aj]) (by simp only [sv, put_length])<|Te<|Cr<|As rfl rfl<|Te<|Ct ?_
 obtain ⟨rfl, rfl, rfl⟩ := some3 hm
 refine X2 [_, _] aL H R rfl<|X2 [_, _] H aL R rfl ?_
 exact rM (rs := [.tmp 10]) (vs := [bv false]) ⟨rfl, trivial⟩ ⟨aL, ai, aj, H, rfl, rfl, cl, ((put_length _ _ _).trans (aJ.trans ((put_length _ _ _).trans rfl))), a6⟩ (.cons_cons _ (.cons _ (.refl _))) (J.trans (Z.trans (S.trans a5)))

set_option maxRecDepth 20000 in
theorem cFleetDividerDivide : ∀ (N : Nat) (b : Base) (R : Hp) (A : Int) (H : Int) (u : (List Int)) (e : (List FleetTask)) (g : Int) (j : Int) (k : Int) (m : Int) (n : Int) (p : Int) (q : Int) (x : (List Bool)) (I : (List (List Int))) (y : Nat) (z : OA) (B : Nat) (s : OA) (t : Nat) (c : OA) (d : Nat) (a : Hp) (J : OA) (K : Nat) (f : Hp) (ab : FZ rI b.w z B u) (ay : (z = none ↔ u = [])) (S : FZ rFleetTask b.w s t e) (L : OS 4 (OT.fr RT.bool) b.w (sv c x d) x a) (T : OS 42 (OT.fr (RT.list rI)) b.w (sv J I K) I f) (az : Bool) (U : (List Bool)) (ac : (List (List Int))) (hm : mFleetDividerDivide N A H u e g j k m n p q x I = some (az, U, ac)),
    CallsG Try.prog 19 [pb y, iv A, iv H, sv z u B] b ((y, Cl 65 [sv s e t, iv g, iv j, iv k, iv m, iv n, iv p, iv q, sv c x d, sv J I K]) :: (a ++ (f ++ R))) (fun v b' hp' => ∃ (bi : Hp), ∃ (bj : OA), ∃ (bk : Nat), ∃ (bl : Hp), bv az = v ∧ (y, Cl 65 [sv s e t, iv g, iv j, iv k, iv m, iv n, iv p, iv q, sv c U d, sv bj ac bk]) :: (bi ++ (bl ++ R)) = hp' ∧ OS 4 (OT.fr RT.bool) b'.w (sv c U d) U bi ∧ U.length = x.length ∧ OS 42 (OT.fr (RT.list rI)) b'.w (sv bj ac bk) ac bl) := by
  intro N
  induction N with
  | zero =>
    intro b R A H u e g j k m n p q x I y z B s t c d a J K f ab ay S L T az U ac hm
    unfold mFleetDividerDivide at hm
    cases hm
  | succ N ih =>
   intro b R A H u e g j k m n p q x I y z B s t c d a J K f ab ay S L T az U ac hm
   refine fE 96 Try.func19 rfl Try.ntmps19 rfl ?_
   unfold mFleetDividerDivide at hm
   refine Cr<|As rfl rfl<|Te<|Cs<|Cr<|M rfl rfl<|Ts rfl (st_eqnil_z rfl rfl ay sl42)<|Te ?_
   refine Cc _ rfl (fun aN => ?_) (fun aN => ?_)
   rw [if_pos aN] at hm
   refine Cs<|Cr<|M rfl rfl<|Ts rfl (sN rfl)<|Ts rfl (sF rfl fld65_2)<|Ts rfl (sL 0 rfl one63 rfl rfl) ?_
   obtain ⟨bK, bL, hm⟩ := bS hm
   refine Do rfl (uW _ call41 rfl (fun w ho => cSlicesContains _ [] x false c d (OS.now (o := (OT.fr RT.bool)) (l := x) (hs := a) L ho (.cons _ (List.sublist_append_left _ _))) bK bL) (fun _ _ _ h => h.2.symm)) ?_
   rintro _ _ ⟨⟨_, rfl, _⟩, rfl⟩
   refine Ts rfl (sn2 rfl)<|Te ?_
   refine Cc _ rfl (fun aO => ?_) (fun aO => ?_)
   rw [if_neg (fun hh => Bool.noConfusion (hh.symm.trans (nt aO)))] at hm
   refine Cr<|M rfl rfl<|Ts rfl (q1 rfl rfl)<|As rfl rfl<|Te<|Ct<|Xr<|Xr ?_
   obtain ⟨rfl, rfl, rfl⟩ := some3 hm
   refine X2 [_] a f R rfl<|X2 [_] f a R rfl ?_
   exact rM (rs := [.tmp 8]) (vs := [.bool (decide (A = 0))]) ⟨rfl, trivial⟩ ⟨a, J, K, f, rfl, rfl, L, rfl, T⟩ (.refl _) lr
   rw [if_pos (nf aO)] at hm
   refine Ck<|Xn<|Cs<|Cr<|M rfl rfl<|Ts rfl (q1 rfl rfl)<|Te ?_
   refine Cc _ rfl (fun aP => ?_) (fun aP => ?_)
   rw [if_pos (of_decide_eq_true aP)] at hm
   refine Cr<|As rfl rfl<|Te<|Ct<|Xr<|Xr ?_
   obtain ⟨rfl, rfl, rfl⟩ := some3 hm
   refine X2 [_] a f R rfl<|X2 [_] f a R rfl ?_
   exact rM (rs := [.tmp 8]) (vs := [bv false]) ⟨rfl, trivial⟩ ⟨a, J, K, f, rfl, rfl, L, rfl, T⟩ (.refl _) lr
   rw [if_neg (of_decide_eq_false aP)] at hm
   refine Ck<|Xn ?_
   obtain ⟨bM, bN, aA⟩ := bS hm
   refine Cj (fun aB e' hp' => ∃ (ad : (List Bool)), ∃ (ao : (List (List Int))), ∃ (ae : Hp), ∃ (aC : OA), ∃ (aD : Nat), ∃ (af : Hp), [] = e' ∧ (y, Cl 65 [sv s e t, iv g, iv j, iv k, iv m, iv n, iv p, iv q, sv c ad d, sv aC ao aD]) :: (ae ++ (af ++ R)) = hp' ∧ b.Le aB ∧ OS 4 (OT.fr RT.bool) aB.w (sv c ad d) ad ae ∧ ad.length = x.length ∧ OS 42 (OT.fr (RT.list rI)) aB.w (sv aC ao aD) ao af ∧ bM = .inl (ad, ao)) ?_ ?_
   have hm := bN
   refine Cr<|M rfl rfl ?_
   obtain ⟨_, aQ, hm⟩ := bS hm
   have aQ := (kS aQ).2
   refine Ts rfl (sa rfl rfl aQ)<|As rfl rfl<|Te<|Cb<|c_front2 [_] a f R rfl<|c_front2 [_] f a R rfl<|cL (unc3 fun aR V ag => fun aE e' hp' => ∃ (E : Hp), ∃ (aq : OA), ∃ (ar : Nat), ∃ (F : Hp), [(0, pb y), (1, iv A), (2, iv H), (9, iv aR)] = e' ∧ (y, Cl 65 [sv s e t, iv g, iv j, iv k, iv m, iv n, iv p, iv q, sv c V d, sv aq ag ar]) :: (E ++ (F ++ R)) = hp' ∧ b.Le aE ∧ OS 4 (OT.fr RT.bool) aE.w (sv c V d) V E ∧ V.length = x.length ∧ OS 42 (OT.fr (RT.list rI)) aE.w (sv aq ag ar) ag F) hm ⟨a, J, K, f, rfl, rfl, lr, L, rfl, T⟩ (.refl _) ?_
   rintro ⟨aR, V, ag⟩ aE _ _ cv ⟨E, aq, ar, F, rfl, rfl, aF, bm, aS, bn⟩ bo bp
   unfold mFleetDividerDivide_L952 at bo
   have hm := (unc3E bo)
   refine Cs<|Cr<|M rfl rfl<|M rfl rfl<|Ts rfl (sN rfl)<|Ts rfl (sF rfl fld65_0)<|Ts rfl (sL 0 rfl one32 rfl rfl)<|Ts rfl (sE rfl sl32)<|Ts rfl (q3 rfl rfl)<|Te ?_
   refine Cc _ rfl (fun aT => ?_) (fun aT => ?_)
   rw [if_pos (of_decide_eq_true aT)] at hm
   refine Ck<|Xn<|Cs<|Cb<|Cr<|M rfl rfl<|M rfl rfl<|M rfl rfl<|M rfl rfl ?_
   obtain ⟨⟨bO, bq, br⟩, bP, hm⟩ := bS hm
   have hm := (unc3E hm)
   refine t_front2 [_] E F R rfl<|t_front2 [_] F E R rfl<|t_out2 [_] [] E F R rfl<|Tg _ rfl call42 rfl (cFleetDividerTake (mFleetDividerDivide N) ih _ _ A H [] aR e g j k m n p q V ag y none 0 s t c d E aq ar F FZ.nil ⟨fun _ => rfl, fun _ => rfl⟩ (S.le aF) bm bn bO bq br bP) ?_
   rintro _ cw _ bs ⟨W, aU, aV, X, rfl, rfl, bt, aW, bu⟩
   refine t_in2 [_] [] W X R rfl<|t_hresp 0 rfl (o' := Cl 65 [sv s e t, iv g, iv j, iv k, iv m, iv n, iv p, iv q, sv c bq d, sv aU br aV]) (by simp only [sv, aW])<|Te ?_
   refine Cc _ rfl (fun aX => ?_) (fun aX => ?_)
   rw [if_pos aX] at hm
   refine Cr<|As rfl rfl<|Te<|Ct<|Xb<|Xr<|Xr<|Xb<|Xr<|Xr ?_
   have hm := congrArg some (bp _ (Option.some.inj hm).symm)
   have bQ := (Option.some.inj hm).symm
   rw [bQ] at aA
   have hm := elimR aA
   obtain ⟨rfl, rfl, rfl⟩ := some3 hm
   refine X2 [_] W X R rfl<|X2 [_] X W R rfl ?_
   exact rM (rs := [.tmp 8]) (vs := [bv true]) ⟨rfl, trivial⟩ ⟨W, aU, aV, X, rfl, rfl, bt, (aW.trans aS), bu⟩ (.refl _) (aF.trans bs)
   rw [if_neg (fun hh => Bool.noConfusion (hh.symm.trans aX))] at hm
   refine Ck<|Xm<|Xn<|Cg<|M rfl rfl ?_
   obtain ⟨_, aY, hm⟩ := bS hm
   have aY := (kS aY).2
   refine Ts rfl (sa rfl rfl aY)<|As rfl rfl<|Tn<|X2 [_] W X R rfl<|X2 [_] X W R rfl ?_
   exact xM hm ⟨W, aU, aV, X, rfl, rfl, ((aF.trans bs)), bt, (aW.trans aS), bu⟩ (.refl _)
   rw [if_neg (of_decide_eq_false aT)] at hm
   refine Ce<|Xe<|Xe<|Xo ?_
   have hm := congrArg some (bp _ (Option.some.inj hm).symm)
   have hq := (Option.some.inj hm).symm
   refine X2 [_] E F R rfl<|X2 [_] F E R rfl ?_
   exact xJ ⟨V, ag, E, aq, ar, F, rfl, rfl, aF, bm, aS, bn, hq⟩ (.refl _)
   rintro aB _ _ ⟨ad, ao, ae, aC, aD, af, rfl, rfl, bR, bT, bU, bV, bW⟩
   rw [bW] at aA
   have hm := elimL aA
   have hm := (unc2E hm)
   refine Cr<|As rfl rfl<|Te<|Ct<|Xr ?_
   obtain ⟨rfl, rfl, rfl⟩ := some3 hm
   refine X2 [_] ae af R rfl<|X2 [_] af ae R rfl ?_
   exact rM (rs := [.tmp 8]) (vs := [bv false]) ⟨rfl, trivial⟩ ⟨ae, aC, aD, af, rfl, rfl, bT, bU, bV⟩ (.refl _) bR
   rw [if_neg (fun hh => Bool.noConfusion (hh.symm.trans aN))] at hm
   refine Ck<|Xn ?_
   obtain ⟨bX, bY, aG⟩ := bS hm
   refine Cj (fun au e' hp' => ∃ (ah : (List Bool)), ∃ (av : (List (List Int))), ∃ (ai : Hp), ∃ (aH : OA), ∃ (aI : Nat), ∃ (aj : Hp), [(0, pb y), (1, iv A), (2, iv H), (3, sv z u B)] = e' ∧ (y, Cl 65 [sv s e t, iv g, iv j, iv k, iv m, iv n, iv p, iv q, sv c ah d, sv aH av aI]) :: (ai ++ (aj ++ R)) = hp' ∧ b.Le au ∧ OS 4 (OT.fr RT.bool) au.w (sv c ah d) ah ai ∧ ah.length = x.length ∧ OS 42 (OT.fr (RT.list rI)) au.w (sv aH av aI) av aj ∧ bX = .inl (ah, av)) ?_ ?_
   have hm := bY
   refine Cs ?_
   obtain ⟨bZ, b0, hm⟩ := bS hm
   refine Di mixed (.refl _)<|E0 0 rfl (sM rfl)<|E0 1 rfl (sN rfl)<|E0 2 rfl (sF rfl fld65_0)<|Es 3 rfl (sL 0 rfl one32 rfl rfl)<|E0 4 rfl (sM rfl)<|E0 5 rfl (sM rfl)<|E0 6 rfl (sN rfl)<|E0 7 rfl (sF rfl fld65_1)<|Es 8 rfl (sD (vs := [_, _, _, _, _, _, _]) 0 7 rfl agg27 rfl rfl rfl) ?_
   refine Eo<|Da [9] (by kernel_rfl) rfl ?_
   refine Rd2 lr rfl rfl (uW _ call35 rfl (fun w ho => cFleetJudge _ [] e u (⟨g, j, k, m, n, p, q⟩ : FleetLimits) s t z B (S.old ho) (ab.old ho) bZ b0) (fun _ _ _ h => h.2.symm)) ?_ ?_
   rintro _ _ ⟨⟨_, rfl, _⟩, rfl⟩
   refine ⟨.inl (by kernel_rfl), ?_⟩
   refine El lr<|E0 10 rfl (q1 rfl rfl)<|Eo<|Dd (by kernel_rfl)<|Xn ?_
   refine Cc _ rfl (fun aZ => ?_) (fun aZ => ?_)
   rw [if_pos (of_decide_eq_true aZ)] at hm
   refine Cr<|M rfl rfl<|M rfl rfl<|Ts rfl (sN rfl)<|Ts rfl (sF rfl fld65_3)<|Ts rfl (sL 0 rfl one23 rfl rfl)<|M rfl rfl<|Do rfl (u_bslice (el := 42) [(0, sv z u B)] [sv z u B] rfl (fun _ => by kernel_rfl)) ?_
   rintro _ _ ⟨cx, rfl, rfl⟩
   obtain ⟨_, a0, hm⟩ := bS hm
   have a0 := room_some a0
   refine t_front2 [_, _] a f R rfl<|Do rfl (uQ (r := (RT.list rI)) (l := I) [_, _] (a ++ R) [[sv z u B]] [u] rfl (by decide) sl23 inf42 rfl rfl rfl rfl T rfl (fun w ho => Rd.own (i := 0) ho rfl) ⟨(RT.list_mk ab), trivial⟩ a0) ?_
   rintro _ _ ⟨a1, rfl, bw⟩
   obtain ⟨b1, b2, rfl, _⟩ := bw.form
   refine Ts rfl (sN rfl)<|Ts rfl (sF rfl fld65_3)<|Do rfl (uS 1 rfl rfl siz23 rfl rfl (by simp)) ?_
   rintro _ _ rfl
   refine Te<|Cs<|Cr<|M rfl rfl<|M rfl rfl ?_
   obtain ⟨_, a2, hm⟩ := bS hm
   have a2 := (kS a2).2
   refine Ts rfl (sb rfl rfl a2)<|M rfl rfl ?_
   obtain ⟨b3, b4, hm⟩ := bS hm
   obtain ⟨b5, b6, b7⟩ := iS b4
   obtain ⟨cy, b8, b9, ca, cb⟩ := FZ.get (sz := 1) rfl (by decide) ab b7
   obtain rfl := b8
   refine Ts rfl (sI b5 rfl rfl b6 cb ca sl42)<|Ts rfl (sO rfl one3 (b9 0 _ rfl)) ?_
   obtain ⟨⟨cc, a3, a4⟩, cd, hm⟩ := bS hm
   have hm := (unc3E hm)
   refine t_pullb 1 rfl<|t_front2 [_, _] a1 a R rfl<|t_out2 [_] [_] a a1 R rfl<|Tg _ rfl call19 rfl (ih _ _ (A - 1) b3 [] e g j k m n p q x (I ++ [u]) y none 0 s t c d a b1 b2 a1 FZ.nil ⟨fun _ => rfl, fun _ => rfl⟩ S L bw cc a3 a4 cd) ?_
   rintro _ cz _ bx ⟨G, a5, aJ, O, rfl, rfl, bz, a6, a7⟩
   refine t_in2 [_] [_] G O R rfl<|t_hresp 0 rfl (o' := Cl 65 [sv s e t, iv g, iv j, iv k, iv m, iv n, iv p, iv q, sv c a3 d, sv a5 a4 aJ]) (by simp only [sv, a6])<|Te ?_
   refine Cc _ rfl (fun a8 => ?_) (fun a8 => ?_)
   rw [if_pos a8] at hm
   refine Cr<|As rfl rfl<|Te<|Ct<|Xr<|Xr ?_
   have ce := (Option.some.inj hm).symm
   rw [ce] at aG
   have hm := elimR aG
   obtain ⟨rfl, rfl, rfl⟩ := some3 hm
   refine X2 [_, _] G O R rfl<|X2 [_, _] O G R rfl ?_
   exact rM (rs := [.tmp 8]) (vs := [bv true]) ⟨rfl, trivial⟩ ⟨G, a5, aJ, O, rfl, rfl, bz, (a6.trans rfl), a7⟩ (.cons_cons _ (.cons _ (.refl _))) bx
   rw [if_neg (fun hh => Bool.noConfusion (hh.symm.trans a8))] at hm
   refine Ck<|Xn ?_
   obtain ⟨_, a9, hm⟩ := bS hm
   obtain ⟨cf, cg, hm⟩ := bS hm
   refine Di mixed (.cons_cons _ (.cons_cons _ (sp G (ss O (.refl _)))))<|E0 0 rfl (sM rfl)<|E0 1 rfl (sM rfl)<|E0 2 rfl (sN rfl)<|E0 3 rfl (sF rfl fld65_3)<|Es 4 rfl (sL 0 rfl one23 rfl rfl)<|E0 5 rfl (sM rfl)<|E0 6 rfl (sN rfl)<|E0 7 rfl (sF rfl fld65_3)<|Es 8 rfl (sL 0 rfl one23 rfl rfl) ?_
   refine E0 9 rfl (sE rfl sl23) ?_
   have a9 := (kS a9).2
   refine E0 10 rfl (sb rfl rfl a9)<|Eo ?_
   obtain ⟨ba, ch, cA, ci, bA, bB, bC⟩ := cutS_some cg
   have cj := OS.lc a7
   refine Da [11] (by kernel_rfl) rfl ?_
   refine Rd2 lr rfl rfl (Stable.does (bC ▸ st_part (l := a4) ba ch rfl (.inl ⟨rfl, by omega⟩) (.inr ⟨_, _, _, rfl, rfl, ci⟩) bA bB cj sl23)) ?_ ?_
   rintro _ _ ⟨rfl, rfl⟩
   obtain ⟨aK, ck, bD⟩ := OS.sub (sz := 1) rfl a7 bA bB
   rw [← bC] at bD
   refine ⟨.inr (.cons_cons _ (.cons_cons _ (sp G (ss O (.refl _))))), ?_⟩
   refine d2 [_, _] G O R rfl<|d_less [_, _] O aK (G ++ R) rfl ck<|Ei lr (.cons_cons _ (.cons_cons _ (ss aK (.refl _))))<|E0 12 rfl (sN rfl)<|E0 13 rfl (sF rfl fld65_3)<|Eo<|Da [14] (by kernel_rfl) rfl ?_
   refine Rd2 lr rfl rfl (uS 0 rfl rfl siz23 rfl rfl (by simp)) ?_ ?_
   rintro _ _ rfl
   refine ⟨.inl (by kernel_rfl), ?_⟩
   refine Dd (by kernel_rfl) ?_
   have hq := (Option.some.inj hm).symm
   refine X2 [_, _] aK G R rfl ?_
   exact xJ ⟨a3, cf, G, (subA a5 aJ ba 1), (aJ - ba), aK, rfl, rfl, bx, bz, (a6.trans rfl), bD, hq⟩ (.cons_cons _ (.cons _ (.refl _)))
   exact Rn
   exact Rn
   rw [if_neg (of_decide_eq_false aZ)] at hm
   refine Ck ?_
   have hq := (Option.some.inj hm).symm
   refine X2 [_] a f R rfl<|X2 [_] f a R rfl ?_
   exact xJ ⟨x, I, a, J, K, f, rfl, rfl, lr, L, rfl, T, hq⟩ (.refl _)
   exact Rn
   rintro au _ _ ⟨ah, av, ai, aH, aI, aj, rfl, rfl, aw, cl, cm, cn, co⟩
   rw [co] at aG
   have hm := elimL aG
   have hm := (unc2E hm)
   refine Cs<|Cr<|M rfl rfl<|Ts rfl (sN rfl)<|Ts rfl (sF rfl fld65_0)<|Ts rfl (sL 0 rfl one32 rfl rfl)<|Ts rfl (sE rfl sl32)<|M rfl rfl<|Te<|Cb ?_
   have cB : e.length ≤ 9223372036854775807 := (FZ.bd (S.le aw))
   refine c_front2 [_] ai aj R rfl<|c_front2 [_] aj ai R rfl ?_
   obtain ⟨cC, cp, aL⟩ := bS hm
   refine cF (fun bb => unc2 fun Y ak => fun ax e' hp' => ∃ (C : Hp), ∃ (al : OA), ∃ (am : Nat), ∃ (D : Hp), [(0, pb y), (1, iv A), (2, iv H), (3, sv z u B), (85, iv ((e.length : Int))), (86, iv ((bb : Int)))] = e' ∧ (y, Cl 65 [sv s e t, iv g, iv j, iv k, iv m, iv n, iv p, iv q, sv c Y d, sv al ak am]) :: (C ++ (D ++ R)) = hp' ∧ au.Le ax ∧ OS 4 (OT.fr RT.bool) ax.w (sv c Y d) Y C ∧ Y.length = x.length ∧ OS 42 (OT.fr (RT.list rI)) ax.w (sv al ak am) ak D) cp ⟨ai, aH, aI, aj, rfl, rfl, lr, cl, cm, cn⟩ (.refl _) ?_ ?_
   rintro bb ⟨Y, ak⟩ ax _ _ cD cE ⟨C, al, am, D, rfl, rfl, an, bc, aM, bd⟩ bE cq
   unfold mFleetDividerDivide_L1175 at bE
   have hm := (unc2E bE)
   refine Cr<|Ts rfl (lT rfl rfl (by omega))<|Te<|Cs<|c_cond_t rfl<|Ck<|Xn<|Cs<|Cb<|Cr ?_
   refine M rfl rfl<|As rfl rfl<|Te<|Cr<|M rfl rfl<|M rfl rfl<|M rfl rfl<|M rfl rfl<|M rfl rfl ?_
   obtain ⟨⟨cr, bF, bG⟩, cs, hm⟩ := bS hm
   have hm := (unc3E hm)
   refine t_front2 [_] C D R rfl<|t_front2 [_] D C R rfl<|t_out2 [_] [] C D R rfl<|Tg _ rfl call42 rfl (cFleetDividerTake (mFleetDividerDivide N) ih _ _ A H u (bb : Int) e g j k m n p q Y ak y z B s t c d C al am D (ab.le (aw.trans an)) ay (S.le (aw.trans an)) bc bd cr bF bG cs) ?_
   rintro _ cG _ bH ⟨Z, be, bf, aa, rfl, rfl, bI, bg, bJ⟩
   refine t_in2 [_] [] Z aa R rfl<|t_hresp 0 rfl (o' := Cl 65 [sv s e t, iv g, iv j, iv k, iv m, iv n, iv p, iv q, sv c bF d, sv be bG bf]) (by simp only [sv, bg])<|Te ?_
   refine Cc _ rfl (fun bh => ?_) (fun bh => ?_)
   rw [if_pos bh] at hm
   refine Cr<|As rfl rfl<|Te<|Ct<|Xb<|Xr<|Xr<|Xb<|Xr ?_
   have ct := cq _ (Option.some.inj hm).symm
   rw [ct] at aL
   have hm := elimR aL
   obtain ⟨rfl, rfl, rfl⟩ := some3 hm
   refine X2 [_] Z aa R rfl<|X2 [_] aa Z R rfl ?_
   exact rM (rs := [.tmp 8]) (vs := [bv true]) ⟨rfl, trivial⟩ ⟨Z, be, bf, aa, rfl, rfl, bI, (bg.trans aM), bJ⟩ (.refl _) (aw.trans (an.trans bH))
   rw [if_neg (fun hh => Bool.noConfusion (hh.symm.trans bh))] at hm
   refine Ck<|Xm<|Xn<|Cg<|Ts rfl (sa rfl rfl (by omega))<|M rfl rfl<|Tn<|X2 [_] Z aa R rfl<|X2 [_] aa Z R rfl ?_
   exact xM hm ⟨Z, be, bf, aa, rfl, rfl, ((an.trans bH)), bI, (bg.trans aM), bJ⟩ (.refl _)
   rintro ⟨Y, ak⟩ ax _ _ ⟨C, al, am, D, rfl, rfl, an, bc, aM, bd⟩ cu
   rw [cu] at aL
   have hm := elimL aL
   have hm := (unc2E hm)
   refine Cr<|Ts rfl (lF rfl rfl (by omega))<|Te<|Cs<|c_cond_f rfl<|Ce<|Xe<|Xe<|Xo<|Xn ?_
   refine Cr<|As rfl rfl<|Te<|Ct ?_
   obtain ⟨rfl, rfl, rfl⟩ := some3 hm
   refine X2 [_] C D R rfl<|X2 [_] D C R rfl ?_
   exact rM (rs := [.tmp 8]) (vs := [bv false]) ⟨rfl, trivial⟩ ⟨C, al, am, D, rfl, rfl, bc, aM, bd⟩ (.refl _) (aw.trans an)

set_option maxRecDepth 20000 in
theorem cFleetDuties (b : Base) (R : Hp) (c : (List FleetTask)) (a : FleetLimits) (d : OA) (e : Nat) (L : FZ rFleetTask b.w d e c) (O : Int) (o : (List (List Int))) (hm : mFleetDuties c a = some (O, o)) :
    CallsG Try.prog 6 [sv d c e, .agg #[iv a.Change, iv a.Long, iv a.Work, iv a.After, iv a.Break, iv a.Rest, iv a.Row]] b (R) (fun v b' hp' => ∃ (S : OA), ∃ (T : Nat), ∃ (U : Hp), .tuple #[sv S o T, iv O] = v ∧ (U ++ R) = hp' ∧ OS 42 (OT.fr (RT.list rI)) b'.w (sv S o T) o U) := by
 refine fE 39 Try.func6 rfl Try.ntmps6 rfl ?_
 unfold mFleetDuties at hm
 refine Cr<|Do rfl (uB _ rfl rfl) ?_
 rintro _ _ ⟨p, rfl, rfl⟩
 refine As rfl rfl<|As rfl rfl<|Te<|Cs<|Cr<|M rfl rfl<|Ts rfl (sD (vs := [_, _, _, _, _, _, _]) 0 7 rfl agg27 rfl rfl rfl) ?_
 obtain ⟨V, ab, hm⟩ := bS hm
 refine Do rfl (uW _ call18 rfl (fun w ho => cFleetCheckTasks_2 _ [] c a d e (L.old ho) V ab) (fun _ _ _ h => h.2.symm)) ?_
 rintro _ _ ⟨⟨_, rfl, _⟩, rfl⟩
 refine As rfl rfl<|Te<|Cr<|M rfl rfl<|Ts rfl (q2 rfl rfl)<|Te ?_
 refine Cc _ rfl (fun y => ?_) (fun y => ?_)
 rw [if_pos (of_decide_eq_true y)] at hm
 refine Cr<|M rfl rfl<|As rfl rfl<|As rfl rfl<|Te<|Ct<|Xr ?_
 obtain ⟨rfl, rfl⟩ := some2 hm
 exact rM (rs := [.tmp 4, .tmp 5]) (vs := [sn, iv V]) ⟨rfl, ⟨rfl, trivial⟩⟩ ⟨none, 0, [], rfl, rfl, OS.nil⟩ (.cons _ (.refl _)) lr
 rw [if_neg (of_decide_eq_false y)] at hm
 refine Ck<|Xn<|Cs<|Cr<|M rfl rfl<|Ts rfl (sE rfl sl32)<|Ts rfl (q5 rfl rfl)<|Te ?_
 refine Cc _ rfl (fun z => ?_) (fun z => ?_)
 rw [if_pos (of_decide_eq_true z)] at hm
 refine Cr<|As rfl rfl<|As rfl rfl<|Te<|Ct<|Xr ?_
 obtain ⟨rfl, rfl⟩ := some2 hm
 exact rM (rs := [.tmp 4, .tmp 5]) (vs := [sn, iv 4]) ⟨rfl, ⟨rfl, trivial⟩⟩ ⟨none, 0, [], rfl, rfl, OS.nil⟩ (.cons _ (.refl _)) lr
 rw [if_neg (of_decide_eq_false z)] at hm
 refine Ck<|Xn<|Cs<|Cr<|M rfl rfl<|Ts rfl (sE rfl sl32) ?_
 obtain ⟨_, A, hm⟩ := bS hm
 have A := (kS A).2
 refine Ts rfl (sa rfl rfl A)<|M rfl rfl<|Te<|Cb ?_
 obtain ⟨_, W, hm⟩ := bS hm
 have W := (kS W).2
 obtain ⟨ao, ac, q⟩ := bS hm
 refine cF (fun f => fun _ => fun s e' hp' => [(0, sv d c e), (3, pb p), (20, iv ((c.length : Int) + 1)), (21, iv ((f : Int)))] = e' ∧ (p, Cl 27 [iv a.Change, iv a.Long, iv a.Work, iv a.After, iv a.Break, iv a.Rest, iv a.Row]) :: R = hp' ∧ b.Le s) ac ⟨rfl, rfl, lr⟩ (.refl _) ?_ ?_
 rintro f _ s _ _ aq ar ⟨rfl, rfl, g⟩ X ad
 unfold mFleetDuties_L139 at X
 have hm := X
 refine Cr<|Ts rfl (lT rfl rfl (by omega))<|Te<|Cs<|c_cond_t rfl<|Ck<|Xn<|Cs<|Cb<|Cr ?_
 refine M rfl rfl<|As rfl rfl<|Te ?_
 obtain ⟨t, ae, af⟩ := bS hm
 refine Cj (fun B e' hp' => ∃ (u : Nat), ∃ (i : OA), ∃ (j : Nat), ∃ (k : Hp), [(0, sv d c e), (3, pb p), (7, iv ((f : Int))), (8, pb u), (20, iv ((c.length : Int) + 1)), (21, iv ((f : Int)))] = e' ∧ (p, Cl 27 [iv a.Change, iv a.Long, iv a.Work, iv a.After, iv a.Break, iv a.Rest, iv a.Row]) :: (u, Cl 65 [sv d c e, iv a.Change, iv a.Long, iv a.Work, iv a.After, iv a.Break, iv a.Rest, iv a.Row, sv i t j, sn]) :: (k ++ R) = hp' ∧ s.Le B ∧ OS 4 (OT.fr RT.bool) B.w (sv i t j) t k) ?_ ?_
 have hm := ae
 obtain ⟨C, l, hm⟩ := bS hm
 refine Di mixed (.refl _)<|E0 0 rfl (sM rfl)<|Es 1 rfl (sD (vs := [_, _, _, _, _, _, _]) 0 7 rfl agg27 rfl rfl rfl)<|E0 2 rfl (sM rfl)<|E0 3 rfl (sE rfl sl32)<|Eo ?_
 have l := mkLen_some l
 refine Da [4] (by kernel_rfl) rfl ?_
 refine Rd2 lr rfl rfl (u_mkOS (r := RT.bool) [_] R [bv false] false C rfl l.1 rfl rfl sl63 inf4 rfl rfl rfl (by decide) rfl l.2.1 l.2.2) ?_ ?_
 rintro _ _ ⟨m, rfl, Y⟩
 obtain ⟨D, E, rfl, _⟩ := Y.form
 refine ⟨.inr (.cons_cons _ (ss m (.refl _))), ?_⟩
 refine Da [5] (by kernel_rfl) rfl ?_
 refine Rd2 lr rfl rfl (Stable.does (sB (v := .agg #[sv d c e, iv a.Change, iv a.Long, iv a.Work, iv a.After, iv a.Break, iv a.Rest, iv a.Row, .slice D (List.replicate C (false : Bool)).length E, sn]) [(0, sv d c e), (1, .agg #[iv a.Change, iv a.Long, iv a.Work, iv a.After, iv a.Break, iv a.Rest, iv a.Row]), (2, .slice D (List.replicate C (false : Bool)).length E)] rfl (fun _ => by kernel_rfl))) ?_ ?_
 rintro _ _ ⟨rfl, rfl⟩
 refine ⟨.inr (.cons_cons _ (ss m (.refl _))), ?_⟩
 refine Da [6] (by kernel_rfl) rfl ?_
 refine Rd2 lr rfl rfl (uB _ rfl rfl) ?_ ?_
 rintro _ _ ⟨ag, rfl, rfl⟩
 refine ⟨.inr (.cons _ (.cons_cons _ (ss m (.refl _)))), ?_⟩
 refine Ei lr (.cons _ (.cons_cons _ (ss m (.refl _))))<|E0 7 rfl (sA rfl)<|Eo<|Dd (by kernel_rfl) ?_
 obtain rfl := o1 hm
 refine Xp 1 rfl ?_
 exact xJ ⟨ag, D, E, m, rfl, rfl, lr, Y⟩ (.refl _)
 exact Rn
 exact Rn
 exact Rn
 rintro B _ _ ⟨u, i, j, k, rfl, rfl, F, ah⟩
 have hm := af
 refine Cr<|M rfl rfl<|M rfl rfl ?_
 obtain ⟨⟨ai, Z, G⟩, H, hm⟩ := bS hm
 obtain ⟨aj, H⟩ := lim_some H
 have hm := (unc3E hm)
 refine t_pullb 1 rfl<|t_out1 [_] [_] k R rfl<|Tg _ rfl call19 rfl (cFleetDividerDivide aj _ _ (f : Int) (-1) [] c a.Change a.Long a.Work a.After a.Break a.Rest a.Row t [] u none 0 d e i j k none 0 [] FZ.nil ⟨fun _ => rfl, fun _ => rfl⟩ (L.le (g.trans F)) ah OS.nil ai Z G H) ?_
 rintro _ au _ aa ⟨x, I, J, n, rfl, rfl, av, ak, al⟩
 refine t_in2 [_] [_] x n R rfl<|t_hresp 0 rfl (o' := Cl 65 [sv d c e, iv a.Change, iv a.Long, iv a.Work, iv a.After, iv a.Break, iv a.Rest, iv a.Row, sv i Z j, sv I G J]) (by simp only [sv, ak])<|Te ?_
 refine Cc _ rfl (fun K => ?_) (fun K => ?_)
 rw [if_pos K] at hm
 refine Cr<|M rfl rfl<|Ts rfl (sN rfl)<|Ts rfl (sF rfl fld65_3)<|Ts rfl (sL 0 rfl one23 rfl rfl)<|As rfl rfl<|As rfl rfl<|Te<|Ct<|Xb ?_
 refine Xr<|Xr<|Xb<|Xr ?_
 have am := ad _ (Option.some.inj hm).symm
 rw [am] at q
 have hm := elimR q
 obtain ⟨rfl, rfl⟩ := some2 hm
 refine X2 [_, _] x n R rfl ?_
 exact rM (rs := [.tmp 4, .tmp 5]) (vs := [sv I G J, iv 0]) ⟨rfl, ⟨rfl, trivial⟩⟩ ⟨I, J, n, rfl, rfl, al⟩ (.cons _ (.cons _ (sp n (ss x (.refl _))))) (g.trans (F.trans aa))
 rw [if_neg (fun hh => Bool.noConfusion (hh.symm.trans K))] at hm
 refine Ck<|Xm<|Xn<|Cg<|Ts rfl (sa rfl rfl (by omega))<|M rfl rfl<|Tn<|Xp 1 rfl ?_
 exact xM hm ⟨rfl, rfl, ((g.trans (F.trans aa)))⟩ (.cons_cons _ (.cons _ (ss x (ss n (.refl _)))))
 rintro _ s _ _ ⟨rfl, rfl, g⟩ an
 rw [an] at q
 have hm := elimL q
 refine Cr<|Ts rfl (lF rfl rfl (by omega))<|Te<|Cs<|c_cond_f rfl<|Ce<|Xe<|Xe<|Xo<|Xn ?_
 refine Cr<|As rfl rfl<|As rfl rfl<|Te<|Ct ?_
 obtain ⟨rfl, rfl⟩ := some2 hm
 exact rM (rs := [.tmp 4, .tmp 5]) (vs := [sn, iv 9]) ⟨rfl, ⟨rfl, trivial⟩⟩ ⟨none, 0, [], rfl, rfl, OS.nil⟩ (.cons _ (.refl _)) g

set_option maxRecDepth 20000 in
theorem cFishtopTopCrewed_1 (b : Base) (R : Hp) (g : Int) (a : (List FleetTask)) (c : Nat) (d : OA) (e : Nat) (n : FZ rFleetTask b.w d e a) (h : Bool) (hm : mFishtopTopCrewed_1 g a = some h) :
    CallsG Try.prog 8 [iv g, pb c] b ((c, Cl 32 [sv d a e]) :: R) (fun v b' hp' => bv h = v ∧ (c, Cl 32 [sv d a e]) :: R = hp') := by
 refine fE 12 Try.func8 rfl Try.ntmps8 rfl ?_
 unfold mFishtopTopCrewed_1 at hm
 refine Cr<|As rfl rfl<|Te ?_
 obtain ⟨i, k, l⟩ := bS hm
 refine Cj (fun j e' hp' => [(3, bv i)] = e' ∧ (c, Cl 32 [sv d a e]) :: R = hp' ∧ b.Le j) ?_ ?_
 have hm := k
 refine Cg<|M rfl rfl ?_
 refine Tb rfl (q3 rfl rfl) (fun f => ?_) (fun f => ?_)
 rw [if_pos f] at hm
 refine M rfl rfl<|No 6 rfl rfl rfl rfl rfl<|No 6 rfl rfl rfl rfl rfl<|No 6 rfl rfl rfl rfl rfl<|No 6 rfl rfl rfl rfl rfl<|Ts rfl (pT rfl rfl)<|As rfl rfl<|Tn ?_
 obtain rfl := o1 hm
 exact xJ ⟨rfl, rfl, lr⟩ (.refl _)
 rw [if_neg f] at hm
 refine M rfl rfl<|Ys 6 rfl rfl rfl<|M rfl rfl<|Ys 6 rfl rfl rfl<|Ts rfl (sL 0 rfl one32 rfl rfl)<|Ys 6 rfl rfl rfl<|Ts rfl (sE rfl sl32)<|Ys 6 rfl rfl rfl<|Ts rfl (q6 rfl rfl)<|Ts rfl (pF rfl rfl) ?_
 refine As rfl rfl<|Tn ?_
 obtain rfl := o1 hm
 exact xJ ⟨rfl, rfl, lr⟩ (.refl _)
 rintro j _ _ ⟨rfl, rfl, m⟩
 have hm := l
 refine Ct ?_
 obtain rfl := o1 hm
 exact rM (rs := [.tmp 3]) (vs := [bv i]) ⟨rfl, trivial⟩ ⟨rfl, rfl⟩ (.refl _) m

set_option maxRecDepth 20000 in
theorem cSlicesIndexFunc (b : Base) (R : Hp) (c : (List Int)) (d : (List FleetTask)) (a : Nat) (i : OA) (j : Nat) (f : OA) (g : Nat) (n : FZ rI b.w i j c) (s : FZ rFleetTask b.w f g d) (o : Int) (hm : mSlicesIndexFunc c d = some o) :
    CallsG Try.prog 20 [sv i c j, .func (.func 8) #[] #[pb a]] b ((a, Cl 32 [sv f d g]) :: R) (fun v b' hp' => iv o = v ∧ (a, Cl 32 [sv f d g]) :: R = hp') := by
 refine fE 19 Try.func20 rfl Try.ntmps20 rfl ?_
 unfold mSlicesIndexFunc at hm
 refine Cr<|As rfl rfl<|Te<|Cs<|Cr<|M rfl rfl<|Ts rfl (sE rfl sl42)<|M rfl rfl<|Te<|Cb ?_
 have I : c.length ≤ 9223372036854775807 := (FZ.bd n)
 obtain ⟨J, t, h⟩ := bS hm
 refine cF (fun k => fun _ => fun l e' hp' => [(0, sv i c j), (1, .func (.func 8) #[] #[pb a]), (7, iv ((c.length : Int))), (8, iv ((k : Int)))] = e' ∧ (a, Cl 32 [sv f d g]) :: R = hp' ∧ b.Le l) t ⟨rfl, rfl, lr⟩ (.refl _) ?_ ?_
 rintro k _ l _ _ K L ⟨rfl, rfl, e⟩ p u
 unfold mSlicesIndexFunc_L51 at p
 have hm := p
 refine Cr<|Ts rfl (lT rfl rfl (by omega))<|Te<|Cs<|c_cond_t rfl<|Ck<|Xn<|Cs<|Cb<|Cr ?_
 refine M rfl rfl<|As rfl rfl<|Te<|Cr<|M rfl rfl<|M rfl rfl<|M rfl rfl ?_
 obtain ⟨q, w, hm⟩ := bS hm
 obtain ⟨x, y, z⟩ := iS w
 obtain ⟨O, A, B, C, D⟩ := FZ.get (sz := 1) rfl (by decide) (n.le e) z
 obtain rfl := A
 refine Ts rfl (sI x rfl rfl y D C sl42)<|Ts rfl (sO rfl one3 (B 0 _ rfl)) ?_
 obtain ⟨E, F, hm⟩ := bS hm
 refine Tv #[] #[pb a] [iv q] rfl rfl call8 rfl (cFishtopTopCrewed_1 _ _ q d a f g (s.le e) E F) ?_
 rintro _ S _ r ⟨rfl, rfl⟩
 refine Te ?_
 refine Cc _ rfl (fun m => ?_) (fun m => ?_)
 rw [if_pos m] at hm
 refine Cr<|M rfl rfl<|As rfl rfl<|Te<|Ct<|Xb<|Xr<|Xr<|Xb<|Xr ?_
 have G := u _ (Option.some.inj hm).symm
 rw [G] at h
 have hm := elimR h
 obtain rfl := o1 hm
 exact rM (rs := [.tmp 4]) (vs := [iv ((k : Int))]) ⟨rfl, trivial⟩ ⟨rfl, rfl⟩ (.refl _) (e.trans r)
 rw [if_neg (fun hh => Bool.noConfusion (hh.symm.trans m))] at hm
 refine Ck<|Xm<|Xn<|Cg<|Ts rfl (sa rfl rfl (by omega))<|M rfl rfl<|Tn ?_
 exact xM hm ⟨rfl, rfl, ((e.trans r))⟩ (.refl _)
 rintro _ l _ _ ⟨rfl, rfl, e⟩ H
 rw [H] at h
 have hm := elimL h
 refine Cr<|Ts rfl (lF rfl rfl (by omega))<|Te<|Cs<|c_cond_f rfl<|Ce<|Xe<|Xe<|Xo<|Xn ?_
 refine Cr<|As rfl rfl<|Te<|Ct ?_
 obtain rfl := o1 hm
 exact rM (rs := [.tmp 4]) (vs := [iv ((-1))]) ⟨rfl, trivial⟩ ⟨rfl, rfl⟩ (.refl _) e

set_option maxRecDepth 20000 in
theorem cSlicesContainsFunc (b : Base) (R : Hp) (c : (List Int)) (a : (List FleetTask)) (d : Nat) (g : OA) (h : Nat) (e : OA) (f : Nat) (k : FZ rI b.w g h c) (l : FZ rFleetTask b.w e f a) (i : Bool) (hm : mSlicesContainsFunc c a = some i) :
    CallsG Try.prog 7 [sv g c h, .func (.func 8) #[] #[pb d]] b ((d, Cl 32 [sv e a f]) :: R) (fun v b' hp' => bv i = v ∧ (d, Cl 32 [sv e a f]) :: R = hp') := by
 refine fE 9 Try.func7 rfl Try.ntmps7 rfl ?_
 unfold mSlicesContainsFunc at hm
 refine Cr<|As rfl rfl<|Te<|Cr<|M rfl rfl<|M rfl rfl ?_
 obtain ⟨j, m, hm⟩ := bS hm
 refine Tg _ rfl call20 rfl (cSlicesIndexFunc _ _ c a d g h e f k l j m) ?_
 rintro _ o _ n ⟨rfl, rfl⟩
 refine Ts rfl (q6 rfl rfl)<|As rfl rfl<|Te<|Ct ?_
 obtain rfl := o1 hm
 exact rM (rs := [.tmp 4]) (vs := [.bool (decide (0 ≤ j))]) ⟨rfl, trivial⟩ ⟨rfl, rfl⟩ (.refl _) n

set_option maxRecDepth 20000 in
theorem cFleetCheckShifts (b : Base) (R : Hp) (c : (List FleetShift)) (i : OA) (k : Nat) (r : FZ rFleetShift b.w i k c) (s : Int) (hm : mFleetCheckShifts c = some s) :
    CallsG Try.prog 21 [sv i c k] b (R) (fun v b' hp' => iv s = v ∧ R = hp') := by
 refine fE 38 Try.func21 rfl Try.ntmps21 rfl ?_
 unfold mFleetCheckShifts at hm
 refine Cr<|As rfl rfl<|Te<|Cs<|Cr<|M rfl rfl<|Ts rfl (sE rfl sl45)<|Ts rfl (q5 rfl rfl)<|Te ?_
 refine Cc _ rfl (fun m => ?_) (fun m => ?_)
 rw [if_pos (of_decide_eq_true m)] at hm
 refine Cr<|As rfl rfl<|Te<|Ct<|Xr ?_
 obtain rfl := o1 hm
 exact rM (rs := [.tmp 2]) (vs := [iv 4]) ⟨rfl, trivial⟩ ⟨rfl, rfl⟩ (.refl _) lr
 rw [if_neg (of_decide_eq_false m)] at hm
 refine Ck<|Xn<|Cs<|Cr<|M rfl rfl<|Ts rfl (sE rfl sl45)<|M rfl rfl<|Te<|Cb ?_
 have aa : c.length ≤ 9223372036854775807 := (FZ.bd r)
 obtain ⟨ab, D, d⟩ := bS hm
 refine cF (fun n => fun _ => fun l e' hp' => [(8, sv i c k), (9, iv ((c.length : Int))), (10, iv ((n : Int)))] = e' ∧ R = hp' ∧ b.Le l) D ⟨rfl, rfl, lr⟩ (.refl _) ?_ ?_
 rintro n _ l _ _ ac ad ⟨rfl, rfl, e⟩ t x
 unfold mFleetCheckShifts_L85 at t
 have hm := t
 refine Cr<|Ts rfl (lT rfl rfl (by omega))<|Te<|Cs<|c_cond_t rfl<|Ck<|Xn<|Cs<|Cb<|Cr ?_
 obtain ⟨a, E, hm⟩ := bS hm
 obtain ⟨F, G, H⟩ := iS E
 obtain ⟨ae, I, J, y, K⟩ := FZ.get (sz := 3) rfl (by decide) (r.le e) H
 obtain ⟨_, _, rfl, rfl, ⟨_, _, rfl, rfl, rfl⟩⟩ := I
 refine Ts rfl (sI F rfl rfl G K y sl45)<|Ts rfl (sP (vs := [iv a.Day, iv a.Start, iv a.End]) 3 rfl agg47 y rfl (fun j u hu => J j u hu))<|Do rfl (uA [iv 0, iv 0, iv 0] zero47 rfl) ?_
 rintro _ _ ⟨z, rfl, rfl⟩
 refine Do rfl (uN (vs := [_, _, _]) 0 3 rfl rfl rfl siz47 rfl (mc rfl (mc rfl (mc rfl mn))) rfl (by simp)) ?_
 rintro _ _ rfl
 refine Te<|Cb ?_
 obtain ⟨L, O, S⟩ := bS hm
 refine Cj (fun A e' hp' => [(4, pb z), (8, sv i c k), (9, iv ((c.length : Int))), (10, iv ((n : Int))), (14, bv L)] = e' ∧ (z, Cl 47 [iv a.Day, iv a.Start, iv a.End]) :: R = hp' ∧ l.Le A) ?_ ?_
 have hm := O
 refine Cg<|Ts rfl (sF rfl fld47_0)<|Ts rfl (sL 0 rfl one3 rfl rfl) ?_
 obtain ⟨B, T, hm⟩ := bS hm
 refine Do rfl (uW _ call23 rfl (fun w ho => cFleetWithin _ [] a.Day 0 6 B T) (fun _ _ _ h => h.2.symm)) ?_
 rintro _ _ ⟨⟨_, rfl, _⟩, rfl⟩
 rcases Bool.eq_false_or_eq_true B with f | f
 rw [if_pos f] at hm
 refine Tr 17 rfl (v' := .bool true) (by rw [f] <;> rfl)<|Ts rfl (st_not_t rfl)<|M rfl rfl<|Ys 19 rfl rfl rfl<|Ts rfl (sF rfl fld47_1)<|Ys 19 rfl rfl rfl<|Ts rfl (sL 0 rfl one3 rfl rfl)<|Ys 19 rfl rfl rfl ?_
 obtain ⟨C, U, hm⟩ := bS hm
 refine Do rfl (uW _ call23 rfl (fun w ho => cFleetWithin _ [] a.Start 0 28800 C U) (fun _ _ _ h => h.2.symm)) ?_
 rintro _ _ ⟨⟨_, rfl, _⟩, rfl⟩
 rcases Bool.eq_false_or_eq_true C with g | g
 rw [if_pos g] at hm
 refine Tr 22 rfl (v' := .bool true) (by rw [g] <;> rfl)<|Ys 19 rfl rfl rfl<|Ts rfl (st_not_t rfl)<|Ts rfl (pF rfl rfl)<|M rfl rfl<|Ys 25 rfl rfl rfl<|Ts rfl (sF rfl fld47_2)<|Ys 25 rfl rfl rfl<|Ts rfl (sL 0 rfl one3 rfl rfl)<|Ys 25 rfl rfl rfl ?_
 obtain ⟨V, W, hm⟩ := bS hm
 refine Do rfl (uW _ call23 rfl (fun w ho => cFleetWithin _ [] a.End 0 28800 V W) (fun _ _ _ h => h.2.symm)) ?_
 rintro _ _ ⟨⟨_, rfl, _⟩, rfl⟩
 refine Ys 25 rfl rfl rfl<|Ts rfl (sn2 rfl)<|Ts rfl (pF rfl rfl)<|As rfl rfl<|Tn ?_
 obtain rfl := o1 hm
 exact xJ ⟨rfl, rfl, lr⟩ (.refl _)
 rw [if_neg (fun hh => Bool.noConfusion (hh.symm.trans g))] at hm
 refine Tr 22 rfl (v' := .bool false) (by rw [g] <;> rfl)<|Ys 19 rfl rfl rfl<|Ts rfl (st_not_f rfl)<|Ts rfl (pF rfl rfl)<|M rfl rfl<|No 25 rfl rfl rfl rfl rfl<|No 25 rfl rfl rfl rfl rfl<|No 25 rfl rfl rfl rfl rfl<|No 25 rfl rfl rfl rfl rfl<|Ts rfl (pT rfl rfl) ?_
 refine As rfl rfl<|Tn ?_
 obtain rfl := o1 hm
 exact xJ ⟨rfl, rfl, lr⟩ (.refl _)
 rw [if_neg (fun hh => Bool.noConfusion (hh.symm.trans f))] at hm
 refine Tr 17 rfl (v' := .bool false) (by rw [f] <;> rfl)<|Ts rfl (st_not_f rfl)<|M rfl rfl<|No 19 rfl rfl rfl rfl rfl<|No 19 rfl rfl rfl rfl rfl<|No 19 rfl rfl rfl rfl rfl<|No 19 rfl rfl rfl rfl rfl<|Ts rfl (pT rfl rfl)<|M rfl rfl<|No 25 rfl rfl rfl rfl rfl ?_
 refine No 25 rfl rfl rfl rfl rfl<|No 25 rfl rfl rfl rfl rfl<|No 25 rfl rfl rfl rfl rfl<|Ts rfl (pT rfl rfl)<|As rfl rfl<|Tn ?_
 obtain rfl := o1 hm
 exact xJ ⟨rfl, rfl, lr⟩ (.refl _)
 rintro A _ _ ⟨rfl, rfl, o⟩
 have hm := S
 refine Cc _ rfl (fun p => ?_) (fun p => ?_)
 rw [if_pos p] at hm
 refine Cr<|As rfl rfl<|Te<|Ct<|Xb<|Xb<|Xr<|Xr<|Xb<|Xr ?_
 have X := x _ (Option.some.inj hm).symm
 rw [X] at d
 have hm := elimR d
 obtain rfl := o1 hm
 exact rM (rs := [.tmp 2]) (vs := [iv 2]) ⟨rfl, trivial⟩ ⟨rfl, rfl⟩ (.cons _ (.refl _)) (e.trans o)
 rw [if_neg (fun hh => Bool.noConfusion (hh.symm.trans p))] at hm
 refine Cr<|Ts rfl (sF rfl fld47_2)<|Ts rfl (sL 0 rfl one3 rfl rfl)<|Ts rfl (sF rfl fld47_1)<|Ts rfl (sL 0 rfl one3 rfl rfl)<|Ts rfl (q4 rfl rfl)<|As rfl rfl<|Te ?_
 refine Cc _ rfl (fun q => ?_) (fun q => ?_)
 rw [if_pos (of_decide_eq_true q)] at hm
 refine Cr<|As rfl rfl<|Te<|Ct<|Xb<|Xb<|Xr<|Xr<|Xb<|Xr ?_
 have Y := x _ (Option.some.inj hm).symm
 rw [Y] at d
 have hm := elimR d
 obtain rfl := o1 hm
 exact rM (rs := [.tmp 2]) (vs := [iv 13]) ⟨rfl, trivial⟩ ⟨rfl, rfl⟩ (.cons _ (.refl _)) (e.trans o)
 rw [if_neg (of_decide_eq_false q)] at hm
 refine Ck<|Xm<|Xm<|Xn<|Cg<|Ts rfl (sa rfl rfl (by omega))<|M rfl rfl<|Tn ?_
 exact xM hm ⟨rfl, rfl, ((e.trans o))⟩ (.cons _ (.refl _))
 rintro _ l _ _ ⟨rfl, rfl, e⟩ Z
 rw [Z] at d
 have hm := elimL d
 refine Cr<|Ts rfl (lF rfl rfl (by omega))<|Te<|Cs<|c_cond_f rfl<|Ce<|Xe<|Xe<|Xo<|Xn ?_
 refine Cr<|As rfl rfl<|Te<|Ct ?_
 obtain rfl := o1 hm
 exact rM (rs := [.tmp 2]) (vs := [iv 0]) ⟨rfl, trivial⟩ ⟨rfl, rfl⟩ (.refl _) e

set_option maxRecDepth 20000 in
theorem cFleetLoad (b : Base) (R : Hp) (d : (List FleetShift)) (a : (List Int)) (f : OA) (g : Nat) (h : OA) (i : Nat) (m : FZ rFleetShift b.w f g d) (n : FZ rI b.w h i a) (o : Int) (hm : mFleetLoad d a = some o) :
    CallsG Try.prog 25 [sv f d g, sv h a i] b (R) (fun v b' hp' => iv o = v ∧ R = hp') := by
 refine fE 29 Try.func25 rfl Try.ntmps25 rfl ?_
 unfold mFleetLoad at hm
 refine Cr<|As rfl rfl<|Te<|Cr<|As rfl rfl<|Te<|Cs<|Cr<|M rfl rfl<|Ts rfl (sE rfl sl42) ?_
 refine M rfl rfl<|Te<|Cb ?_
 have X : a.length ≤ 9223372036854775807 := (FZ.bd n)
 obtain ⟨e, t, u⟩ := bS hm
 refine cS (fun p => fun e => fun j e' hp' => [(0, sv f d g), (5, iv e), (8, sv h a i), (9, iv ((a.length : Int))), (10, iv ((p : Int)))] = e' ∧ R = hp' ∧ b.Le j) t ⟨rfl, rfl, lr⟩ (.refl _) ?_ ?_
 rintro p e j _ _ Y Z ⟨rfl, rfl, c⟩ q
 unfold mFleetLoad_L181 at q
 have hm := q
 refine Cr<|Ts rfl (lT rfl rfl (by omega))<|Te<|Cs<|c_cond_t rfl<|Ck<|Xn<|Cs<|Cb<|Cr ?_
 obtain ⟨aa, w, hm⟩ := bS hm
 obtain ⟨x, y, z⟩ := iS w
 obtain ⟨ab, A, B, C, D⟩ := FZ.get (sz := 1) rfl (by decide) (n.le c) z
 obtain rfl := A
 refine Ts rfl (sI x rfl rfl y D C sl42)<|Ts rfl (sO rfl one3 (B 0 _ rfl))<|As rfl rfl<|Te ?_
 obtain ⟨ac, E, hm⟩ := bS hm
 obtain ⟨ad, F, hm⟩ := bS hm
 obtain ⟨_, k, hm⟩ := bS hm
 obtain ⟨_, l, hm⟩ := bS hm
 refine Di mixed (.refl _)<|E0 0 rfl (sM rfl)<|E0 1 rfl (sM rfl)<|E0 2 rfl (sM rfl) ?_
 obtain ⟨G, H, I⟩ := iS E
 obtain ⟨ae, J, K, r, L⟩ := FZ.get (sz := 3) rfl (by decide) (m.le c) I
 obtain ⟨_, _, rfl, rfl, ⟨_, _, rfl, rfl, rfl⟩⟩ := J
 refine E0 3 rfl (sI G rfl rfl H L r sl45)<|E0 4 rfl (sQ rfl r fld47_2)<|Es 5 rfl (sO rfl one3 (K 2 _ rfl))<|E0 6 rfl (sM rfl)<|E0 7 rfl (sM rfl) ?_
 obtain ⟨O, S, T⟩ := iS F
 obtain ⟨af, U, V, s, W⟩ := FZ.get (sz := 3) rfl (by decide) (m.le c) T
 obtain ⟨_, _, rfl, rfl, ⟨_, _, rfl, rfl, rfl⟩⟩ := U
 refine E0 8 rfl (sI O rfl rfl S W s sl45)<|E0 9 rfl (sQ rfl s fld47_1)<|Es 10 rfl (sO rfl one3 (V 1 _ rfl)) ?_
 have k := (kS k).2
 refine E0 11 rfl (sb rfl rfl k) ?_
 have l := (kS l).2
 refine E0 12 rfl (sa rfl rfl l)<|E0 13 rfl (sA rfl)<|Eo<|Dd (by kernel_rfl)<|Xm<|Xn<|Cg<|Ts rfl (sa rfl rfl (by omega))<|M rfl rfl<|Tn ?_
 obtain rfl := o1 hm
 exact xS ⟨rfl, rfl, (c)⟩ (.refl _)
 rintro j _ _ ⟨rfl, rfl, c⟩
 have hm := u
 refine Cr<|Ts rfl (lF rfl rfl (by omega))<|Te<|Cs<|c_cond_f rfl<|Ce<|Xe<|Xe<|Xo<|Xn ?_
 refine Cr<|M rfl rfl<|As rfl rfl<|Te<|Ct ?_
 obtain rfl := o1 hm
 exact rM (rs := [.tmp 4]) (vs := [iv e]) ⟨rfl, trivial⟩ ⟨rfl, rfl⟩ (.refl _) c

set_option maxRecDepth 20000 in
theorem clSlicesClone_2 (A : Option Addr) (n c : Nat) (xs : List Value) (w : World) (hR : Rd w A xs) (hl : xs.length = n * 1) (hn : n * 24 ≤ 140737488355328 ∧ n ≤ 9223372036854775807) :
    CallsH Try.prog 26 [.slice A n c] w [] (fun v hp' => Seg0 42 1 v n xs hp') := by
  refine fn_enter 8 Try.func26 rfl Try.ntmps26 rfl ?_
  refine c_sr ?_
  refine t_as rfl rfl ?_
  refine t_ne ?_
  refine c_seq ?_
  refine c_sr ?_
  refine t_mv rfl rfl ?_
  refine t_bool rfl (st_eqnil rfl rfl sl23) (fun hc1 => ?_) (fun hc1 => ?_)
  ·
    refine t_ne ?_
    refine c_cond_t rfl ?_
    refine c_sr ?_
    refine t_as rfl rfl ?_
    refine t_ne ?_
    refine c_ret ?_
    refine x_then_ret ?_
    subst hc1
    obtain rfl := hR.none_nil
    obtain rfl : n = 0 := by simp at hl; omega
    refine x_drop (hp' := []) (by repeat (first | exact List.Sublist.refl _ | exact List.nil_sublist _ | exact List.sublist_append_left _ _ | exact List.sublist_append_right _ _ | exact (List.sublist_append_right _ _).trans (List.sublist_append_right _ _) | apply List.Sublist.cons_cons | apply List.Sublist.cons)) ?_
    exact ret1 (Base.Le.refl _) rfl rfl (Seg0.nil)
  ·
    refine t_ne ?_
    refine c_cond_f rfl ?_
    refine c_skip ?_
    refine x_then_normal ?_
    refine c_sr ?_
    refine t_do rfl (u_bslice (el := 42) [] [] rfl (fun _ => by kernel_rfl)) ?_
    rintro _ _ ⟨g0, rfl, rfl⟩
    refine t_mv rfl rfl ?_
    refine t_do rfl (u_app0 xs sl23 inf42 rfl (by decide) rfl rfl hl (fun w ho => hR.old ho) hn.2 hn.1) ?_
    rintro _ _ ⟨hs, rfl, hseg⟩
    refine t_as rfl rfl ?_
    refine t_ne ?_
    refine c_ret ?_
    refine x_drop (hp' := hs) (by repeat (first | exact List.Sublist.refl _ | exact List.nil_sublist _ | exact List.sublist_append_left _ _ | exact List.sublist_append_right _ _ | exact (List.sublist_append_right _ _).trans (List.sublist_append_right _ _) | apply List.Sublist.cons_cons | apply List.Sublist.cons)) ?_
    exact ret1 (Base.Le.refl _) rfl rfl hseg

set_option maxRecDepth 20000 in
theorem cFleetDriverBreaks (b : Base) (R : Hp) (n : (List FleetShift)) (c : (List Int)) (a : FleetLimits) (w : OA) (x : Nat) (e : OA) (d : Nat) (X : FZ rFleetShift b.w w x n) (J : FZ rI b.w e d c) (aw : Bool) (ax : Bool) (ay : Bool) (hm : mFleetDriverBreaks n c a = some (aw, ax, ay)) :
    CallsG Try.prog 43 [sv w n x, sv e c d, .agg #[iv a.Change, iv a.Long, iv a.Work, iv a.After, iv a.Break, iv a.Rest, iv a.Row]] b (R) (fun v b' hp' => .tuple #[bv aw, bv ax, bv ay] = v ∧ R = hp') := by
 refine fE 111 Try.func43 rfl Try.ntmps43 rfl ?_
 unfold mFleetDriverBreaks at hm
 refine Cr<|Do rfl (uB _ rfl rfl) ?_
 rintro _ _ ⟨f, rfl, rfl⟩
 refine As rfl rfl<|As rfl rfl<|As rfl rfl<|Te<|Cr<|Ts rfl (sB (v := .agg #[iv 0, iv 0, iv 0, iv 0, iv 0, iv 0, iv 0]) [] rfl (fun _ => by kernel_rfl)) ?_
 have aN : (RT.arr 7 rI).rep b.w ((List.replicate 7 [iv 0]).flatten) (List.replicate 7 (0 : Int)) := (arr_zero 7 rfl)
 refine Do rfl (uA ((List.replicate 7 [iv 0]).flatten) zero108 (by kernel_rfl)) ?_
 rintro _ _ ⟨m, rfl, rfl⟩
 have az : (RT.arr 7 rI).rep b.w [iv 0, iv 0, iv 0, iv 0, iv 0, iv 0, iv 0] [0, 0, 0, 0, 0, 0, 0] := ⟨rfl, [[iv 0], [iv 0], [iv 0], [iv 0], [iv 0], [iv 0], [iv 0]], rfl, ⟨rfl, ⟨rfl, ⟨rfl, ⟨rfl, ⟨rfl, ⟨rfl, ⟨rfl, trivial⟩⟩⟩⟩⟩⟩⟩⟩
 refine Do rfl (u_storeAll 0 rfl rfl siz108 rfl aN az) ?_
 rintro _ _ rfl
 refine Te<|Cs<|Cr<|M rfl rfl<|Ts rfl (sE rfl sl42)<|M rfl rfl<|Te<|Cb ?_
 have cf : c.length ≤ 9223372036854775807 := (FZ.bd J)
 refine Cp 1 rfl ?_
 obtain ⟨⟨y, K⟩, aO, aP⟩ := bS hm
 refine cS (fun C => unc2 fun y K => fun o e' hp' => ∃ (g : List Value), [(0, sv w n x), (1, sv e c d), (5, pb f), (6, bv false), (7, bv y), (8, bv false), (9, pb m), (20, sv e c d), (21, iv ((c.length : Int))), (22, iv ((C : Int)))] = e' ∧ (f, Cl 27 [iv a.Change, iv a.Long, iv a.Work, iv a.After, iv a.Break, iv a.Rest, iv a.Row]) :: (m, Cl 108 g) :: R = hp' ∧ b.Le o ∧ (RT.arr 7 rI).rep o.w g K) aO ⟨[iv 0, iv 0, iv 0, iv 0, iv 0, iv 0, iv 0], rfl, rfl, lr, az⟩ (.refl _) ?_ ?_
 rintro C ⟨y, K⟩ o _ _ cg ch ⟨g, rfl, rfl, i, p⟩ aA
 unfold mFleetDriverBreaks_L1454 at aA
 have hm := (unc2E aA)
 refine Cr<|Ts rfl (lT rfl rfl (by omega))<|Te<|Cs<|c_cond_t rfl<|Ck<|Xn<|Cs<|Cb<|Cr ?_
 refine M rfl rfl ?_
 obtain ⟨Y, aQ, hm⟩ := bS hm
 obtain ⟨aR, aS, aT⟩ := iS aQ
 obtain ⟨ci, aU, aV, aW, aX⟩ := FZ.get (sz := 1) rfl (by decide) (J.le i) aT
 obtain rfl := aU
 refine Ts rfl (sI aR rfl rfl aS aX aW sl42)<|Ts rfl (sO rfl one3 (aV 0 _ rfl))<|As rfl rfl<|As rfl rfl<|Te<|Cr<|M rfl rfl<|M rfl rfl ?_
 obtain ⟨aY, aZ, hm⟩ := bS hm
 obtain ⟨a0, a1, a2⟩ := iS aZ
 obtain ⟨cj, a3, a4, aB, a5⟩ := FZ.get (sz := 3) rfl (by decide) (X.le i) a2
 obtain ⟨_, _, rfl, rfl, ⟨_, _, rfl, rfl, rfl⟩⟩ := a3
 refine Ts rfl (sI a0 rfl rfl a1 a5 aB sl45)<|Ts rfl (sQ rfl aB fld47_0)<|Ts rfl (sO rfl one3 (a4 0 _ rfl)) ?_
 obtain ⟨z, a6, hm⟩ := bS hm
 obtain ⟨a7, a8, a9⟩ := iS a6
 obtain ⟨ck, ba, bb, bc⟩ := arr_in (sz := 1) rfl p a9
 obtain rfl := ba
 refine Ts rfl (st_baddr a7 rfl rfl a8 bc arr108 (Nat.zero_add _))<|Ts rfl (sL 1 rfl one3 rfl (bb 0 _ rfl)) ?_
 obtain ⟨_, Z, hm⟩ := bS hm
 have Z := (kS Z).2
 refine Ts rfl (sa rfl rfl Z) ?_
 obtain ⟨cl, bd, hm⟩ := bS hm
 obtain ⟨q, aC, aD⟩ := iS bd
 obtain ⟨cm, be, cn, bf⟩ := arr_in (sz := 1) rfl p aD
 obtain rfl := be
 refine Ts rfl (st_baddr q rfl rfl aC bf arr108 (Nat.zero_add _)) ?_
 have bg : (RT.arr 7 rI).rep o.w (g.set (q * 1) (iv (z + 1))) (put K aY.Day (z + 1)) := arr_put (k := 0) aC p aD (by decide) rfl int_set
 refine Do rfl (u_storeArr 1 rfl rfl siz3 rfl rfl p (by show q * 1 < 7; omega)) ?_
 rintro _ _ rfl
 refine Te<|Cr<|M rfl rfl<|M rfl rfl ?_
 obtain ⟨r, bh, hm⟩ := bS hm
 obtain ⟨s, bi, co, bj, aE, aF, aG⟩ := cutS_some bh
 have aa := FZ.sub (sz := 1) rfl (J.le i) aE aF
 have bk := (J.le i).1.1
 rw [← aG] at aa
 refine Ts rfl (aG ▸ st_part (l := c) s bi rfl (.inl ⟨rfl, by omega⟩) (.inr ⟨_, _, _, rfl, rfl, bj⟩) aE aF bk sl42)<|Ts rfl (sE rfl sl42)<|M rfl rfl<|Te<|Cb ?_
 have cp : r.length ≤ 9223372036854775807 := (FZ.bd aa)
 refine Cp 1 rfl<|Cp 1 rfl ?_
 obtain ⟨A, bl, bm⟩ := bS hm
 refine cS (fun L => fun A => fun O e' hp' => [(0, sv w n x), (1, sv e c d), (5, pb f), (6, bv false), (7, bv A), (8, bv false), (9, pb m), (11, iv Y), (20, sv e c d), (21, iv ((c.length : Int))), (22, iv ((C : Int))), (38, .slice (subA e d s 1) (r).length (d - s)), (39, iv ((r.length : Int))), (40, iv ((L : Int)))] = e' ∧ (f, Cl 27 [iv a.Change, iv a.Long, iv a.Work, iv a.After, iv a.Break, iv a.Rest, iv a.Row]) :: (m, Cl 108 (g.set (q * 1) (iv (z + 1)))) :: R = hp' ∧ o.Le O) bl ⟨rfl, rfl, lr⟩ (.refl _) ?_ ?_
 rintro L A O _ _ cq cr ⟨rfl, rfl, h⟩ aH
 unfold mFleetDriverBreaks_L2422 at aH
 have hm := aH
 refine Cr<|Ts rfl (lT rfl rfl (by omega))<|Te<|Cs<|c_cond_t rfl<|Ck<|Xn<|Cs<|Cb<|Cr ?_
 obtain ⟨cs, bn, hm⟩ := bS hm
 obtain ⟨bo, bp, bq⟩ := iS bn
 obtain ⟨ct, br, bs, bt, bu⟩ := FZ.get (sz := 1) rfl (by decide) (aa.le h) bq
 obtain rfl := br
 refine Ts rfl (sI bo rfl rfl bp bu bt sl42)<|Ts rfl (sO rfl one3 (bs 0 _ rfl))<|As rfl rfl<|Te ?_
 obtain ⟨⟨bw, bx, bz, bA, bB, bC⟩, bD, bE⟩ := bS hm
 refine Cj (fun ab e' hp' => ∃ (D : Nat), ∃ (E : Nat), [(0, sv w n x), (1, sv e c d), (5, pb f), (6, bv false), (7, bv A), (8, bv false), (9, pb m), (11, iv Y), (14, pb D), (15, pb E), (20, sv e c d), (21, iv ((c.length : Int))), (22, iv ((C : Int))), (38, .slice (subA e d s 1) (r).length (d - s)), (39, iv ((r.length : Int))), (40, iv ((L : Int)))] = e' ∧ (f, Cl 27 [iv a.Change, iv a.Long, iv a.Work, iv a.After, iv a.Break, iv a.Rest, iv a.Row]) :: (m, Cl 108 (g.set (q * 1) (iv (z + 1)))) :: (D, Cl 47 [iv bw, iv bx, iv bz]) :: (E, Cl 47 [iv bA, iv bB, iv bC]) :: R = hp' ∧ O.Le ab) ?_ ?_
 have hm := bD
 obtain ⟨ac, bF, hm⟩ := bS hm
 obtain ⟨ad, bG, hm⟩ := bS hm
 refine Di mixed (.refl _)<|E0 0 rfl (sM rfl)<|E0 1 rfl (sM rfl) ?_
 obtain ⟨bH, bI, bJ⟩ := iS bF
 obtain ⟨cu, bK, bL, aI, bM⟩ := FZ.get (sz := 3) rfl (by decide) (X.le (i.trans h)) bJ
 obtain ⟨_, _, rfl, rfl, ⟨_, _, rfl, rfl, rfl⟩⟩ := bK
 refine E0 2 rfl (sI bH rfl rfl bI bM aI sl45)<|Es 3 rfl (sP (vs := [iv ac.Day, iv ac.Start, iv ac.End]) 3 rfl agg47 aI rfl (fun j u hu => bL j u hu))<|E0 4 rfl (sM rfl)<|E0 5 rfl (sM rfl) ?_
 obtain ⟨bN, bO, bP⟩ := iS bG
 obtain ⟨cv, bQ, bR, aJ, bT⟩ := FZ.get (sz := 3) rfl (by decide) (X.le (i.trans h)) bP
 obtain ⟨_, _, rfl, rfl, ⟨_, _, rfl, rfl, rfl⟩⟩ := bQ
 refine E0 6 rfl (sI bN rfl rfl bO bT aJ sl45)<|Es 7 rfl (sP (vs := [iv ad.Day, iv ad.Start, iv ad.End]) 3 rfl agg47 aJ rfl (fun j u hu => bR j u hu))<|Eo<|Da [8, 9] (by kernel_rfl) rfl ?_
 refine Rd2 lr rfl rfl (uA [iv 0, iv 0, iv 0] zero47 rfl) ?_ ?_
 rintro _ _ ⟨ae, rfl, rfl⟩
 refine ⟨.inr (.cons _ (.refl _)), ?_⟩
 refine Da [9] (by kernel_rfl) rfl ?_
 refine Rd2 lr rfl rfl (uA [iv 0, iv 0, iv 0] zero47 rfl) ?_ ?_
 rintro _ _ ⟨af, rfl, rfl⟩
 refine ⟨.inr (.cons _ (.cons _ (.refl _))), ?_⟩
 refine Da [10] (by kernel_rfl) rfl ?_
 refine Rd2 lr rfl rfl (uN (vs := [_, _, _]) 1 3 rfl rfl rfl siz47 rfl (mc rfl (mc rfl (mc rfl mn))) rfl (by simp)) ?_ ?_
 rintro _ _ rfl
 refine ⟨.inr (.cons _ (.cons _ (.refl _))), ?_⟩
 refine Da [11] (by kernel_rfl) rfl ?_
 refine Rd2 lr rfl rfl (uN (vs := [_, _, _]) 0 3 rfl rfl rfl siz47 rfl (mc rfl (mc rfl (mc rfl mn))) rfl (by simp)) ?_ ?_
 rintro _ _ rfl
 refine ⟨.inl (by kernel_rfl), ?_⟩
 refine Dd (by kernel_rfl) ?_
 obtain ⟨rfl, rfl, rfl, rfl, rfl, rfl⟩ := some6 hm
 refine Xp 1 rfl<|Xp 3 rfl<|Xp 3 rfl ?_
 exact xJ ⟨ae, af, rfl, rfl, lr⟩ (.refl _)
 exact Rn
 exact Rn
 exact Rn
 refine Rd2 lr rfl rfl (uA [iv 0, iv 0, iv 0] zero47 rfl) ?_ ?_
 rintro _ _ ⟨af, rfl, rfl⟩
 refine ⟨.inr (.cons _ (.refl _)), ?_⟩
 refine Da [8] (by kernel_rfl) rfl ?_
 refine Rd2 lr rfl rfl (uA [iv 0, iv 0, iv 0] zero47 rfl) ?_ ?_
 rintro _ _ ⟨ae, rfl, rfl⟩
 refine ⟨.inr (.cons _ (.cons _ (.refl _))), ?_⟩
 refine Da [10] (by kernel_rfl) rfl ?_
 refine Rd2 lr rfl rfl (uN (vs := [_, _, _]) 0 3 rfl rfl rfl siz47 rfl (mc rfl (mc rfl (mc rfl mn))) rfl (by simp)) ?_ ?_
 rintro _ _ rfl
 refine ⟨.inr (.cons _ (.cons _ (.refl _))), ?_⟩
 refine Da [11] (by kernel_rfl) rfl ?_
 refine Rd2 lr rfl rfl (uN (vs := [_, _, _]) 1 3 rfl rfl rfl siz47 rfl (mc rfl (mc rfl (mc rfl mn))) rfl (by simp)) ?_ ?_
 rintro _ _ rfl
 refine ⟨.inl (by kernel_rfl), ?_⟩
 refine Dd (by kernel_rfl) ?_
 obtain ⟨rfl, rfl, rfl, rfl, rfl, rfl⟩ := some6 hm
 refine Xp 1 rfl<|Xp 1 rfl<|Xp 3 rfl<|Xp 3 rfl ?_
 exact xJ ⟨ae, af, rfl, rfl, lr⟩ (.refl _)
 exact Rn
 exact Rn
 exact Rn
 exact Rn
 rintro ab _ _ ⟨D, E, rfl, rfl, S⟩
 have hm := (unc6E bE)
 obtain ⟨⟨bU, bV, bW, bX, bY, bZ⟩, b0, b1⟩ := bS hm
 refine Cj (fun aK e' hp' => [(0, sv w n x), (1, sv e c d), (5, pb f), (6, bv false), (7, bv A), (8, bv false), (9, pb m), (11, iv Y), (14, pb D), (15, pb E), (20, sv e c d), (21, iv ((c.length : Int))), (22, iv ((C : Int))), (38, .slice (subA e d s 1) (r).length (d - s)), (39, iv ((r.length : Int))), (40, iv ((L : Int)))] = e' ∧ (f, Cl 27 [iv a.Change, iv a.Long, iv a.Work, iv a.After, iv a.Break, iv a.Rest, iv a.Row]) :: (m, Cl 108 (g.set (q * 1) (iv (z + 1)))) :: (D, Cl 47 [iv bU, iv bV, iv bW]) :: (E, Cl 47 [iv bX, iv bY, iv bZ]) :: R = hp' ∧ ab.Le aK) ?_ ?_
 have hm := b0
 refine Cr<|Ts rfl (sF rfl fld47_0)<|Ts rfl (sL 2 rfl one3 rfl rfl)<|Ts rfl (sF rfl fld47_0)<|Ts rfl (sL 3 rfl one3 rfl rfl)<|Ts rfl (q5 rfl rfl)<|Te ?_
 refine Cc _ rfl (fun ag => ?_) (fun ag => ?_)
 rw [if_pos (of_decide_eq_true ag)] at hm
 refine Cg<|Ts rfl (sD (vs := [_, _, _]) 3 3 rfl agg47 rfl rfl rfl)<|Ts rfl (sD (vs := [_, _, _]) 2 3 rfl agg47 rfl rfl rfl)<|Do rfl (uN (vs := [_, _, _]) 2 3 rfl rfl rfl siz47 rfl (mc rfl (mc rfl (mc rfl mn))) rfl (by simp)) ?_
 rintro _ _ rfl
 refine Do rfl (uN (vs := [_, _, _]) 3 3 rfl rfl rfl siz47 rfl (mc rfl (mc rfl (mc rfl mn))) rfl (by simp)) ?_
 rintro _ _ rfl
 refine Tn ?_
 obtain ⟨rfl, rfl, rfl, rfl, rfl, rfl⟩ := some6 hm
 refine Xp 3 rfl<|Xp 3 rfl<|Xp 3 rfl<|Xp 3 rfl ?_
 exact xJ ⟨rfl, rfl, lr⟩ (.refl _)
 rw [if_neg (of_decide_eq_false ag)] at hm
 refine Ck ?_
 obtain ⟨rfl, rfl, rfl, rfl, rfl, rfl⟩ := some6 hm
 refine Xp 3 rfl<|Xp 3 rfl<|Xp 3 rfl<|Xp 3 rfl ?_
 exact xJ ⟨rfl, rfl, lr⟩ (.refl _)
 rintro aK _ _ ⟨rfl, rfl, T⟩
 have hm := (unc6E b1)
 refine Cg<|M rfl rfl ?_
 rcases Bool.eq_false_or_eq_true A with F | F
 rw [if_pos F] at hm
 refine Tr 59 rfl (v' := .bool true) (by rw [F] <;> rfl)<|M rfl rfl<|No 60 rfl rfl rfl rfl rfl<|No 60 rfl rfl rfl rfl rfl<|No 60 rfl rfl rfl rfl rfl<|No 60 rfl rfl rfl rfl rfl<|No 60 rfl rfl rfl rfl rfl<|No 60 rfl rfl rfl rfl rfl<|No 66 rfl rfl rfl rfl rfl<|No 66 rfl rfl rfl rfl rfl ?_
 refine No 66 rfl rfl rfl rfl rfl<|No 66 rfl rfl rfl rfl rfl<|No 66 rfl rfl rfl rfl rfl<|No 66 rfl rfl rfl rfl rfl<|No 66 rfl rfl rfl rfl rfl<|No 66 rfl rfl rfl rfl rfl<|No 66 rfl rfl rfl rfl rfl<|No 66 rfl rfl rfl rfl rfl<|No 66 rfl rfl rfl rfl rfl<|No 66 rfl rfl rfl rfl rfl ?_
 refine No 66 rfl rfl rfl rfl rfl<|No 66 rfl rfl rfl rfl rfl<|No 66 rfl rfl rfl rfl rfl<|No 66 rfl rfl rfl rfl rfl<|No 60 rfl rfl rfl rfl rfl<|Ts rfl (pT rfl rfl)<|As rfl rfl<|Tn<|Xm<|Xn ?_
 refine Cg<|Ts rfl (sa rfl rfl (by omega))<|M rfl rfl<|Tn<|Xp 1 rfl<|Xp 1 rfl ?_
 obtain rfl := o1 hm
 exact xS ⟨rfl, rfl, ((h.trans (S.trans T)))⟩ (.cons_cons _ (.cons_cons _ (.cons _ (.cons _ (.refl _)))))
 rw [if_neg (fun hh => Bool.noConfusion (hh.symm.trans F))] at hm
 refine Tr 59 rfl (v' := .bool false) (by rw [F] <;> rfl)<|M rfl rfl<|Ys 60 rfl rfl rfl<|Ts rfl (sF rfl fld47_0)<|Ys 60 rfl rfl rfl<|Ts rfl (sL 2 rfl one3 rfl rfl)<|Ys 60 rfl rfl rfl<|Ts rfl (sF rfl fld47_0)<|Ys 60 rfl rfl rfl<|Ts rfl (sL 3 rfl one3 rfl rfl) ?_
 refine Ys 60 rfl rfl rfl ?_
 refine Tb rfl (q2 rfl rfl) (fun ah => ?_) (fun ah => ?_)
 rw [if_pos ah] at hm
 refine Ys 60 rfl rfl rfl<|M rfl rfl<|Ys 66 rfl rfl rfl<|Ts rfl (sF rfl fld47_0)<|Ys 66 rfl rfl rfl<|Ts rfl (sL 3 rfl one3 rfl rfl)<|Ys 66 rfl rfl rfl ?_
 obtain ⟨_, ai, hm⟩ := bS hm
 have ai := (kS ai).2
 refine Ts rfl (st_mul rfl rfl ai)<|Ys 66 rfl rfl rfl<|Ts rfl (sF rfl fld47_1)<|Ys 66 rfl rfl rfl<|Ts rfl (sL 3 rfl one3 rfl rfl)<|Ys 66 rfl rfl rfl ?_
 obtain ⟨_, aj, hm⟩ := bS hm
 have aj := (kS aj).2
 refine Ts rfl (sa rfl rfl aj)<|Ys 66 rfl rfl rfl<|Ts rfl (sF rfl fld47_0)<|Ys 66 rfl rfl rfl<|Ts rfl (sL 2 rfl one3 rfl rfl)<|Ys 66 rfl rfl rfl ?_
 obtain ⟨_, ak, hm⟩ := bS hm
 have ak := (kS ak).2
 refine Ts rfl (st_mul rfl rfl ak)<|Ys 66 rfl rfl rfl ?_
 obtain ⟨_, al, hm⟩ := bS hm
 have al := (kS al).2
 refine Ts rfl (sb rfl rfl al)<|Ys 66 rfl rfl rfl<|Ts rfl (sF rfl fld47_2)<|Ys 66 rfl rfl rfl<|Ts rfl (sL 2 rfl one3 rfl rfl)<|Ys 66 rfl rfl rfl ?_
 obtain ⟨_, am, hm⟩ := bS hm
 have am := (kS am).2
 refine Ts rfl (sb rfl rfl am)<|Ys 66 rfl rfl rfl<|Ts rfl (sF rfl fld27_5)<|Ys 66 rfl rfl rfl<|Ts rfl (sL 0 rfl one3 rfl rfl)<|Ys 66 rfl rfl rfl<|Ts rfl (q3 rfl rfl)<|Ys 60 rfl rfl rfl<|Ts rfl (pT rfl rfl)<|Ts rfl (pF rfl rfl) ?_
 refine Tb rfl (sA rfl) (fun an => ?_) (fun an => ?_)
 rw [if_pos an] at hm
 refine Tn<|Xm<|Xn<|Cg<|Ts rfl (sa rfl rfl (by omega))<|M rfl rfl<|Tn<|Xp 1 rfl<|Xp 1 rfl ?_
 obtain rfl := o1 hm
 exact xS ⟨rfl, rfl, ((h.trans (S.trans T)))⟩ (.cons_cons _ (.cons_cons _ (.cons _ (.cons _ (.refl _)))))
 rw [if_neg an] at hm
 refine Tn<|Xm<|Xn<|Cg<|Ts rfl (sa rfl rfl (by omega))<|M rfl rfl<|Tn<|Xp 1 rfl<|Xp 1 rfl ?_
 obtain rfl := o1 hm
 exact xS ⟨rfl, rfl, ((h.trans (S.trans T)))⟩ (.cons_cons _ (.cons_cons _ (.cons _ (.cons _ (.refl _)))))
 rw [if_neg ah] at hm
 refine Ys 60 rfl rfl rfl<|M rfl rfl<|No 66 rfl rfl rfl rfl rfl<|No 66 rfl rfl rfl rfl rfl<|No 66 rfl rfl rfl rfl rfl<|No 66 rfl rfl rfl rfl rfl<|No 66 rfl rfl rfl rfl rfl<|No 66 rfl rfl rfl rfl rfl<|No 66 rfl rfl rfl rfl rfl<|No 66 rfl rfl rfl rfl rfl ?_
 refine No 66 rfl rfl rfl rfl rfl<|No 66 rfl rfl rfl rfl rfl<|No 66 rfl rfl rfl rfl rfl<|No 66 rfl rfl rfl rfl rfl<|No 66 rfl rfl rfl rfl rfl<|No 66 rfl rfl rfl rfl rfl<|No 66 rfl rfl rfl rfl rfl<|No 66 rfl rfl rfl rfl rfl<|Ys 60 rfl rfl rfl<|Ts rfl (pF rfl rfl) ?_
 refine Ts rfl (pF rfl rfl)<|As rfl rfl<|Tn<|Xm<|Xn<|Cg<|Ts rfl (sa rfl rfl (by omega))<|M rfl rfl<|Tn<|Xp 1 rfl ?_
 refine Xp 1 rfl ?_
 obtain rfl := o1 hm
 exact xS ⟨rfl, rfl, ((h.trans (S.trans T)))⟩ (.cons_cons _ (.cons_cons _ (.cons _ (.cons _ (.refl _)))))
 rintro O _ _ ⟨rfl, rfl, h⟩
 have hm := bm
 refine Cr<|Ts rfl (lF rfl rfl (by omega))<|Te<|Cs<|c_cond_f rfl<|Ce<|Xe<|Xe<|Xo<|Xm ?_
 refine Xn<|Cg<|Ts rfl (sa rfl rfl (by omega))<|M rfl rfl<|Tn<|Xp 1 rfl<|Xp 1 rfl ?_
 obtain rfl := o1 hm
 exact xS ⟨g.set (q * 1) (iv (z + 1)), rfl, rfl, ((i.trans h)), (RT.le (RT.arr 7 rI) bg h)⟩ (.refl _)
 rintro o _ _ ⟨g, rfl, rfl, i, p⟩
 have hm := (unc2E aP)
 refine Cr<|Ts rfl (lF rfl rfl (by omega))<|Te<|Cs<|c_cond_f rfl<|Ce<|Xe<|Xe<|Xo<|Xn ?_
 refine Cr<|As rfl rfl<|Te<|Cs<|Cr<|Ts rfl (st_loadArr 1 rfl agg108 rfl p)<|M rfl rfl<|Te<|Cb ?_
 obtain ⟨⟨G, B, U⟩, b2, b3⟩ := bS hm
 refine cS (fun ao => unc3 fun G B U => fun V e' hp' => [(5, pb f), (6, bv G), (7, bv y), (8, bv B), (16, iv U), (87, .agg (g).toArray), (88, iv ((ao : Int)))] = e' ∧ (f, Cl 27 [iv a.Change, iv a.Long, iv a.Work, iv a.After, iv a.Break, iv a.Rest, iv a.Row]) :: R = hp' ∧ o.Le V) b2 ⟨rfl, rfl, lr⟩ (.cons_cons _ (.cons _ (.refl _))) ?_ ?_
 rintro ao ⟨G, B, U⟩ V _ _ cw cx ⟨rfl, rfl, t⟩ aL
 unfold mFleetDriverBreaks_L2815 at aL
 have hm := (unc3E aL)
 refine Cr<|Ts rfl (lT rfl rfl (by omega))<|Te<|Cs<|c_cond_t rfl<|Ck<|Xn<|Cs<|Cb<|Cr ?_
 obtain ⟨b4, b5, hm⟩ := bS hm
 obtain ⟨b6, b7, b8⟩ := iS b5
 obtain ⟨cy, b9, ca, cb⟩ := arr_in (sz := 1) rfl (RT.le (RT.arr 7 rI) p t) b8
 obtain rfl := b9
 refine Ts rfl (st_aidx1 b6 rfl rfl b7 cb (ca 0 _ rfl) arr108 one3)<|As rfl rfl<|Te ?_
 obtain ⟨cc, cd, ce⟩ := bS hm
 refine Cj (fun aM e' hp' => [(5, pb f), (6, bv cc), (7, bv y), (8, bv B), (16, iv U), (18, iv b4), (87, .agg (g).toArray), (88, iv ((ao : Int)))] = e' ∧ (f, Cl 27 [iv a.Change, iv a.Long, iv a.Work, iv a.After, iv a.Break, iv a.Rest, iv a.Row]) :: R = hp' ∧ V.Le aM) ?_ ?_
 have hm := cd
 refine Cg<|M rfl rfl ?_
 rcases Bool.eq_false_or_eq_true G with H | H
 rw [if_pos H] at hm
 refine Tr 91 rfl (v' := .bool true) (by rw [H] <;> rfl)<|M rfl rfl<|No 92 rfl rfl rfl rfl rfl<|No 92 rfl rfl rfl rfl rfl<|Ts rfl (pT rfl rfl)<|As rfl rfl<|Tn ?_
 obtain rfl := o1 hm
 exact xJ ⟨rfl, rfl, lr⟩ (.refl _)
 rw [if_neg (fun hh => Bool.noConfusion (hh.symm.trans H))] at hm
 refine Tr 91 rfl (v' := .bool false) (by rw [H] <;> rfl)<|M rfl rfl<|Ys 92 rfl rfl rfl<|M rfl rfl<|Ys 92 rfl rfl rfl<|Ts rfl (q5 rfl rfl)<|Ts rfl (pF rfl rfl) ?_
 refine Tb rfl (sA rfl) (fun aq => ?_) (fun aq => ?_)
 rw [if_pos aq] at hm
 refine Tn ?_
 obtain rfl := o1 hm
 exact xJ ⟨rfl, rfl, lr⟩ (.refl _)
 rw [if_neg aq] at hm
 refine Tn ?_
 obtain rfl := o1 hm
 exact xJ ⟨rfl, rfl, lr⟩ (.refl _)
 rintro aM _ _ ⟨rfl, rfl, W⟩
 have hm := ce
 refine Cs<|Cr<|M rfl rfl<|Ts rfl (q1 rfl rfl)<|Te ?_
 refine Cc _ rfl (fun ar => ?_) (fun ar => ?_)
 rw [if_pos (of_decide_eq_true ar)] at hm
 refine Cr<|As rfl rfl<|Te<|Ce<|Xe<|Xo<|Xn<|Cg<|Ts rfl (sa rfl rfl (by omega))<|M rfl rfl ?_
 refine Tn ?_
 obtain rfl := o1 hm
 exact xS ⟨rfl, rfl, ((t.trans W))⟩ (.refl _)
 rw [if_neg (of_decide_eq_false ar)] at hm
 refine Ck<|Xn<|Cr<|M rfl rfl ?_
 obtain ⟨_, au, hm⟩ := bS hm
 have au := (kS au).2
 refine Ts rfl (sa rfl rfl au)<|As rfl rfl<|Te<|Cg<|M rfl rfl ?_
 rcases Bool.eq_false_or_eq_true B with I | I
 rw [if_pos I] at hm
 refine Tr 100 rfl (v' := .bool true) (by rw [I] <;> rfl)<|M rfl rfl<|No 101 rfl rfl rfl rfl rfl<|No 101 rfl rfl rfl rfl rfl<|No 101 rfl rfl rfl rfl rfl<|No 101 rfl rfl rfl rfl rfl<|Ts rfl (pT rfl rfl)<|As rfl rfl<|Tn<|Xm ?_
 refine Xn<|Cg<|Ts rfl (sa rfl rfl (by omega))<|M rfl rfl<|Tn ?_
 obtain rfl := o1 hm
 exact xS ⟨rfl, rfl, ((t.trans W))⟩ (.refl _)
 rw [if_neg (fun hh => Bool.noConfusion (hh.symm.trans I))] at hm
 refine Tr 100 rfl (v' := .bool false) (by rw [I] <;> rfl)<|M rfl rfl<|Ys 101 rfl rfl rfl<|M rfl rfl<|Ys 101 rfl rfl rfl<|Ts rfl (sF rfl fld27_6)<|Ys 101 rfl rfl rfl<|Ts rfl (sL 0 rfl one3 rfl rfl)<|Ys 101 rfl rfl rfl<|Ts rfl (q5 rfl rfl) ?_
 refine Ts rfl (pF rfl rfl) ?_
 refine Tb rfl (sA rfl) (fun av => ?_) (fun av => ?_)
 rw [if_pos av] at hm
 refine Tn<|Xm<|Xn<|Cg<|Ts rfl (sa rfl rfl (by omega))<|M rfl rfl<|Tn ?_
 obtain rfl := o1 hm
 exact xS ⟨rfl, rfl, ((t.trans W))⟩ (.refl _)
 rw [if_neg av] at hm
 refine Tn<|Xm<|Xn<|Cg<|Ts rfl (sa rfl rfl (by omega))<|M rfl rfl<|Tn ?_
 obtain rfl := o1 hm
 exact xS ⟨rfl, rfl, ((t.trans W))⟩ (.refl _)
 rintro V _ _ ⟨rfl, rfl, t⟩
 have hm := (unc3E b3)
 refine Cr<|Ts rfl (lF rfl rfl (by omega))<|Te<|Cs<|c_cond_f rfl<|Ce<|Xe<|Xe<|Xo<|Xn ?_
 refine Cr<|M rfl rfl<|M rfl rfl<|M rfl rfl<|As rfl rfl<|As rfl rfl<|As rfl rfl<|Te<|Ct ?_
 obtain ⟨rfl, rfl, rfl⟩ := some3 hm
 exact rM (rs := [.tmp 6, .tmp 7, .tmp 8]) (vs := [bv G, bv y, bv B]) ⟨rfl, ⟨rfl, ⟨rfl, trivial⟩⟩⟩ ⟨rfl, rfl⟩ (.cons _ (.refl _)) (i.trans t)

set_option maxRecDepth 20000 in
theorem cFleetFits (b : Base) (R : Hp) (e : (List FleetShift)) (f : (List Int)) (a : FleetLimits) (g : OA) (i : Nat) (j : OA) (k : Nat) (q : FZ rFleetShift b.w g i e) (r : FZ rI b.w j k f) (l : Bool) (hm : mFleetFits e f a = some l) :
    CallsG Try.prog 28 [sv g e i, sv j f k, .agg #[iv a.Change, iv a.Long, iv a.Work, iv a.After, iv a.Break, iv a.Rest, iv a.Row]] b (R) (fun v b' hp' => bv l = v ∧ R = hp') := by
 refine fE 28 Try.func28 rfl Try.ntmps28 rfl ?_
 unfold mFleetFits at hm
 refine Cr<|Do rfl (uB _ rfl rfl) ?_
 rintro _ _ ⟨z, rfl, rfl⟩
 refine As rfl rfl<|Te<|Cr<|M rfl rfl<|M rfl rfl<|Ts rfl (sD (vs := [_, _, _, _, _, _, _]) 0 7 rfl agg27 rfl rfl rfl) ?_
 obtain ⟨⟨m, n, s⟩, t, hm⟩ := bS hm
 have hm := (unc3E hm)
 refine Do rfl (uW _ call43 rfl (fun w ho => cFleetDriverBreaks _ [] e f a g i j k (q.old ho) (r.old ho) m n s t) (fun _ _ _ h => h.2.symm)) ?_
 rintro _ _ ⟨⟨_, rfl, _⟩, rfl⟩
 refine M rfl rfl<|Ts rfl (st_extract rfl rfl)<|Ts rfl (st_extract rfl rfl)<|Ts rfl (st_extract rfl rfl)<|As rfl rfl<|As rfl rfl<|As rfl rfl<|Te ?_
 obtain ⟨o, u, x⟩ := bS hm
 refine Cj (fun p e' hp' => [(6, bv o)] = e' ∧ R = hp' ∧ b.Le p) ?_ ?_
 have hm := u
 refine Cg<|M rfl rfl ?_
 rcases Bool.eq_false_or_eq_true m with c | c
 rw [if_pos c] at hm
 refine Tr 18 rfl (v' := .bool true) (by rw [c] <;> rfl)<|Ts rfl (st_not_t rfl)<|M rfl rfl<|No 20 rfl rfl rfl rfl rfl<|No 20 rfl rfl rfl rfl rfl<|Ts rfl (pF rfl rfl)<|M rfl rfl<|No 24 rfl rfl rfl rfl rfl<|No 24 rfl rfl rfl rfl rfl<|Ts rfl (pF rfl rfl) ?_
 refine As rfl rfl<|Tn ?_
 obtain rfl := o1 hm
 exact xJ ⟨rfl, rfl, lr⟩ (.cons _ (.refl _))
 rw [if_neg (fun hh => Bool.noConfusion (hh.symm.trans c))] at hm
 refine Tr 18 rfl (v' := .bool false) (by rw [c] <;> rfl)<|Ts rfl (st_not_f rfl)<|M rfl rfl<|Ys 20 rfl rfl rfl<|M rfl rfl ?_
 rcases Bool.eq_false_or_eq_true n with d | d
 rw [if_pos d] at hm
 refine Tr 21 rfl (v' := .bool true) (by rw [d] <;> rfl)<|Ys 20 rfl rfl rfl<|Ts rfl (st_not_t rfl)<|Ts rfl (pT rfl rfl)<|M rfl rfl<|No 24 rfl rfl rfl rfl rfl<|No 24 rfl rfl rfl rfl rfl<|Ts rfl (pF rfl rfl)<|As rfl rfl<|Tn ?_
 obtain rfl := o1 hm
 exact xJ ⟨rfl, rfl, lr⟩ (.cons _ (.refl _))
 rw [if_neg (fun hh => Bool.noConfusion (hh.symm.trans d))] at hm
 refine Tr 21 rfl (v' := .bool false) (by rw [d] <;> rfl)<|Ys 20 rfl rfl rfl<|Ts rfl (st_not_f rfl)<|Ts rfl (pT rfl rfl)<|M rfl rfl<|Ys 24 rfl rfl rfl<|M rfl rfl<|Ys 24 rfl rfl rfl<|Ts rfl (sn2 rfl)<|Ts rfl (pT rfl rfl) ?_
 refine As rfl rfl<|Tn ?_
 obtain rfl := o1 hm
 exact xJ ⟨rfl, rfl, lr⟩ (.cons _ (.refl _))
 rintro p _ _ ⟨rfl, rfl, y⟩
 have hm := x
 refine Ct ?_
 obtain rfl := o1 hm
 exact rM (rs := [.tmp 6]) (vs := [bv o]) ⟨rfl, trivial⟩ ⟨rfl, rfl⟩ (.refl _) y

set_option maxRecDepth 20000 in
theorem cFleetRoster_1_2 : ∀ (N : Nat) (b : Base) (R : Hp) (a : Int) (t : (List FleetShift)) (ag : Int) (y : Int) (z : Int) (A : Int) (B : Int) (C : Int) (D : Int) (E : Int) (q : (List (List Int))) (L : (List (List Int))) (j : Nat) (f : Nat) (n : Nat) (o : Nat) (k : Nat) (m : Nat) (u : OA) (x : Nat) (c : OA) (d : Nat) (g : Hp) (O : OA) (S : Nat) (p : Hp) (ao : FZ rFleetShift b.w u x t) (T : OS 42 (OT.fr (RT.list rI)) b.w (sv c q d) q g) (aA : OS 42 (OT.fr (RT.list rI)) b.w (sv O L S) L p) (aB : Int) (Y : (List (List Int))) (ah : (List (List Int))) (hm : mFleetRoster_1_2 N a t ag y z A B C D E q L = some (aB, Y, ah)),
    CallsG Try.prog 24 [iv a, pb j, pb f, pb n, pb o, pb k, pb m] b ((j, Cl 45 [sv u t x]) :: (f, Cl 23 [sv c q d]) :: (n, Cl 3 [iv ag]) :: (o, Cl 23 [sv O L S]) :: (k, Cl 27 [iv y, iv z, iv A, iv B, iv C, iv D, iv E]) :: (m, Cl 70 [.func (.func 24) #[] #[pb j, pb f, pb n, pb o, pb k, pb m]]) :: (g ++ (p ++ R))) (fun v b' hp' => ∃ (bd : Hp), ∃ (be : OA), ∃ (bf : Nat), ∃ (bg : Hp), .tuple #[] = v ∧ (j, Cl 45 [sv u t x]) :: (f, Cl 23 [sv c Y d]) :: (n, Cl 3 [iv aB]) :: (o, Cl 23 [sv be ah bf]) :: (k, Cl 27 [iv y, iv z, iv A, iv B, iv C, iv D, iv E]) :: (m, Cl 70 [.func (.func 24) #[] #[pb j, pb f, pb n, pb o, pb k, pb m]]) :: (bd ++ (bg ++ R)) = hp' ∧ OS 42 (OT.fr (RT.list rI)) b'.w (sv c Y d) Y bd ∧ Y.length = q.length ∧ OS 42 (OT.fr (RT.list rI)) b'.w (sv be ah bf) ah bg) := by
  intro N
  induction N with
  | zero =>
    intro b R a t ag y z A B C D E q L j f n o k m u x c d g O S p ao T aA aB Y ah hm
    unfold mFleetRoster_1_2 at hm
    cases hm
  | succ N ih =>
   intro b R a t ag y z A B C D E q L j f n o k m u x c d g O S p ao T aA aB Y ah hm
   refine fE 70 Try.func24 rfl Try.ntmps24 rfl ?_
   unfold mFleetRoster_1_2 at hm
   refine Cs<|Cr<|M rfl rfl<|Ts rfl (sL 0 rfl one45 rfl rfl)<|Ts rfl (sE rfl sl45)<|Ts rfl (q1 rfl rfl)<|Te ?_
   refine Cc _ rfl (fun aO => ?_) (fun aO => ?_)
   rw [if_pos (of_decide_eq_true aO)] at hm
   refine Cr<|As rfl rfl<|Te<|Cs<|Cr<|Ts rfl (sL 1 rfl one23 rfl rfl)<|Ts rfl (sE rfl sl23)<|M rfl rfl<|Te<|Cb ?_
   have c5 : q.length ≤ 9223372036854775807 := (OS.len T)
   refine Cp 5 rfl<|Cp 5 rfl<|Cp 5 rfl<|Cp 5 rfl<|Cp 5 rfl<|Cp 5 rfl<|c_front2 [_, _, _, _, _, _] g p R rfl<|c_front2 [_, _, _, _, _, _] p g R rfl ?_
   obtain ⟨aC, bt, bu⟩ := bS hm
   refine cS (fun bh => fun aC => fun aq e' hp' => [(1, pb j), (2, pb f), (3, pb n), (4, pb o), (8, iv aC), (17, sv c q d), (18, iv ((q.length : Int))), (19, iv ((bh : Int)))] = e' ∧ (j, Cl 45 [sv u t x]) :: (f, Cl 23 [sv c q d]) :: (n, Cl 3 [iv ag]) :: (o, Cl 23 [sv O L S]) :: (k, Cl 27 [iv y, iv z, iv A, iv B, iv C, iv D, iv E]) :: (m, Cl 70 [.func (.func 24) #[] #[pb j, pb f, pb n, pb o, pb k, pb m]]) :: (g ++ (p ++ R)) = hp' ∧ b.Le aq) bt ⟨rfl, rfl, lr⟩ (.refl _) ?_ ?_
   rintro bh aC aq _ _ c6 c7 ⟨rfl, rfl, U⟩ bi
   unfold mFleetRoster_1_2_L2317 at bi
   have hm := bi
   refine Cr<|Ts rfl (lT rfl rfl (by omega))<|Te<|Cs<|c_cond_t rfl<|Ck<|Xn<|Cs<|Cb<|Cr ?_
   obtain ⟨bw, bx, hm⟩ := bS hm
   obtain ⟨bz, bA, bB⟩ := iS bx
   obtain ⟨c8, da, db, dc, dd, bC, bD, bE, bF, de, df⟩ := OS.get (sz := 1) rfl (by decide) (T.le U) bB
   obtain ⟨⟨bG, bH, rfl, bI⟩, rfl⟩ := bC
   refine Ts rfl (sI bz rfl rfl bA bF bE sl23)<|Ts rfl (st_load_rd rfl one42 (fun w ho => bD w _ ho (.cons _ (.cons _ (.cons _ (.cons _ (.cons _ (.cons _ (List.sublist_append_left _ _))))))) 0 _ rfl))<|As rfl rfl<|Te<|Cg<|M rfl rfl<|Ts rfl (sL 0 rfl one45 rfl rfl)<|M rfl rfl ?_
   obtain ⟨bJ, bK, hm⟩ := bS hm
   refine Do rfl (uW _ call25 rfl (fun w ho => cFleetLoad _ [] t bw u x bG bH ((ao.le U).old ho) (bI.old ho) bJ bK) (fun _ _ _ h => h.2.symm)) ?_
   rintro _ _ ⟨⟨_, rfl, _⟩, rfl⟩
   refine Ts rfl (st_max rfl rfl)<|As rfl rfl<|Tn<|Xm<|Xn<|Cg<|Ts rfl (sa rfl rfl (by omega))<|M rfl rfl<|Tn<|Xp 5 rfl ?_
   refine Xp 5 rfl<|Xp 5 rfl<|Xp 5 rfl<|Xp 5 rfl<|Xp 5 rfl<|X2 [_, _, _, _, _, _] g p R rfl<|X2 [_, _, _, _, _, _] p g R rfl ?_
   obtain rfl := o1 hm
   exact xS ⟨rfl, rfl, (U)⟩ (.refl _)
   rintro aq _ _ ⟨rfl, rfl, U⟩
   have hm := bu
   refine Cr<|Ts rfl (lF rfl rfl (by omega))<|Te<|Cs<|c_cond_f rfl<|Ce<|Xe<|Xe<|Xo<|Xn ?_
   obtain ⟨⟨bL, aP⟩, bM, bN⟩ := bS hm
   refine Cj (fun aQ e' hp' => ∃ (aD : OA), ∃ (aE : Nat), ∃ (ai : Hp), [] = e' ∧ (j, Cl 45 [sv u t x]) :: (f, Cl 23 [sv c q d]) :: (n, Cl 3 [iv bL]) :: (o, Cl 23 [sv aD aP aE]) :: (k, Cl 27 [iv y, iv z, iv A, iv B, iv C, iv D, iv E]) :: (m, Cl 70 [.func (.func 24) #[] #[pb j, pb f, pb n, pb o, pb k, pb m]]) :: (g ++ (ai ++ R)) = hp' ∧ aq.Le aQ ∧ OS 42 (OT.fr (RT.list rI)) aQ.w (sv aD aP aE) aP ai) ?_ ?_
   have hm := bM
   obtain ⟨bO, bP, bQ⟩ := bS hm
   refine Cj (fun bj e' hp' => [(2, pb f), (3, pb n), (4, pb o), (8, iv aC), (35, bv bO)] = e' ∧ (f, Cl 23 [sv c q d]) :: (n, Cl 3 [iv ag]) :: (o, Cl 23 [sv O L S]) :: (j, Cl 45 [sv u t x]) :: (k, Cl 27 [iv y, iv z, iv A, iv B, iv C, iv D, iv E]) :: (m, Cl 70 [.func (.func 24) #[] #[pb j, pb f, pb n, pb o, pb k, pb m]]) :: (g ++ (p ++ R)) = hp' ∧ aq.Le bj) ?_ ?_
   have hm := bP
   refine Cg<|Ts rfl (sL 2 rfl one3 rfl rfl) ?_
   refine Tb rfl (q3 rfl rfl) (fun aR => ?_) (fun aR => ?_)
   rw [if_pos aR] at hm
   refine M rfl rfl<|No 31 rfl rfl rfl rfl rfl<|No 31 rfl rfl rfl rfl rfl<|No 31 rfl rfl rfl rfl rfl<|Ts rfl (pT rfl rfl)<|Tn ?_
   obtain rfl := o1 hm
   refine Xp 5 rfl<|Xp 5 rfl<|Xp 2 rfl<|Xp 5 rfl<|Xp 5 rfl<|Xp 5 rfl<|X2 [_, _, _, _, _, _] g p R rfl<|X2 [_, _, _, _, _, _] p g R rfl ?_
   exact xJ ⟨rfl, rfl, lr⟩ (.refl _)
   rw [if_neg aR] at hm
   refine M rfl rfl<|Ys 31 rfl rfl rfl<|M rfl rfl<|Ys 31 rfl rfl rfl<|Ts rfl (sL 2 rfl one3 rfl rfl)<|Ys 31 rfl rfl rfl<|Ts rfl (q3 rfl rfl)<|Ts rfl (pF rfl rfl)<|Tn ?_
   obtain rfl := o1 hm
   refine Xp 5 rfl<|Xp 5 rfl<|Xp 2 rfl<|Xp 5 rfl<|Xp 5 rfl<|Xp 5 rfl<|X2 [_, _, _, _, _, _] g p R rfl<|X2 [_, _, _, _, _, _] p g R rfl ?_
   exact xJ ⟨rfl, rfl, lr⟩ (.refl _)
   rintro bj _ _ ⟨rfl, rfl, aF⟩
   have hm := bQ
   refine Cc _ rfl (fun aS => ?_) (fun aS => ?_)
   rw [if_pos aS] at hm
   refine Cg<|Ts rfl (sL 0 rfl one23 rfl rfl) ?_
   obtain ⟨_, aT, hm⟩ := bS hm
   have aT := room_some aT
   refine Do rfl (u_cloneOwn (r := (RT.list rI)) (l := q) (sz := 1) (by_ := 24) [_, _, _, _, _, _] (g ++ (p ++ R)) rfl clSlicesClone_2 call26 rfl rfl (T.le (U.trans aF)) (.cons _ (.cons _ (.cons _ (.cons _ (.cons _ (.cons _ (List.sublist_append_left _ _))))))) aT) ?_
   rintro _ _ ⟨bR, bT, aU, rfl, rfl, bU⟩
   refine M rfl rfl<|Do rfl (uS 2 rfl rfl siz23 rfl rfl (by simp)) ?_
   rintro _ _ rfl
   refine Do rfl (uS 1 rfl rfl siz3 rfl rfl (by simp)) ?_
   rintro _ _ rfl
   refine Tn ?_
   obtain ⟨rfl, rfl⟩ := some2 hm
   refine Xp 5 rfl<|Xp 5 rfl<|Xp 4 rfl<|Xp 4 rfl<|Xp 4 rfl<|Xp 5 rfl<|X2 [_, _, _, _, _, _] aU g (p ++ R) rfl ?_
   exact xJ ⟨bR, bT, aU, rfl, rfl, aF, bU⟩ (.cons_cons _ (.cons_cons _ (.cons_cons _ (.cons_cons _ (.cons_cons _ (.cons_cons _ (sp g (sp aU (ss p (.refl _))))))))))
   rw [if_neg (fun hh => Bool.noConfusion (hh.symm.trans aS))] at hm
   refine Ck ?_
   obtain ⟨rfl, rfl⟩ := some2 hm
   refine Xp 5 rfl<|Xp 5 rfl<|Xp 4 rfl<|Xp 4 rfl<|Xp 4 rfl<|Xp 5 rfl<|X2 [_, _, _, _, _, _] g p R rfl<|X2 [_, _, _, _, _, _] p g R rfl ?_
   exact xJ ⟨O, S, p, rfl, rfl, aF, (aA.le (U.trans aF))⟩ (.refl _)
   rintro aQ _ _ ⟨aD, aE, ai, rfl, rfl, bk, bV⟩
   have hm := (unc2E bN)
   refine Ct<|Xr ?_
   obtain ⟨rfl, rfl, rfl⟩ := some3 hm
   refine Xp 5 rfl<|Xp 5 rfl<|Xp 5 rfl<|Xp 5 rfl<|Xp 5 rfl<|Xp 5 rfl<|X2 [_, _, _, _, _, _] g ai R rfl<|X2 [_, _, _, _, _, _] ai g R rfl ?_
   have bW := (T.le (U.trans bk))
   exact rM (rs := []) (vs := []) trivial ⟨g, aD, aE, ai, rfl, rfl, bW, rfl, bV⟩ (.refl _) (U.trans bk)
   rw [if_neg (of_decide_eq_false aO)] at hm
   refine Ck<|Xn<|Cr<|Ts rfl (sL 1 rfl one23 rfl rfl)<|Ts rfl (sE rfl sl23)<|M rfl rfl<|Te<|Cb ?_
   have dg : q.length ≤ 9223372036854775807 := (OS.len T)
   refine Cp 3 rfl<|Cp 3 rfl<|Cp 5 rfl<|Cp 5 rfl<|Cp 5 rfl<|Cp 5 rfl<|c_front2 [_, _, _, _, _, _] g p R rfl<|c_front2 [_, _, _, _, _, _] p g R rfl ?_
   obtain ⟨⟨ar, I, Z⟩, bX, bY⟩ := bS hm
   refine cS (fun G => unc3 fun ar I Z => fun aj e' hp' => ∃ (F : Hp), ∃ (V : OA), ∃ (W : Nat), ∃ (e : Hp), [(0, iv a), (1, pb j), (2, pb f), (5, pb k), (6, pb m), (39, sv c I d), (40, iv ((q.length : Int))), (41, iv ((G : Int)))] = e' ∧ (j, Cl 45 [sv u t x]) :: (f, Cl 23 [sv c I d]) :: (k, Cl 27 [iv y, iv z, iv A, iv B, iv C, iv D, iv E]) :: (m, Cl 70 [.func (.func 24) #[] #[pb j, pb f, pb n, pb o, pb k, pb m]]) :: (n, Cl 3 [iv ar]) :: (o, Cl 23 [sv V Z W]) :: (F ++ (e ++ R)) = hp' ∧ b.Le aj ∧ OS 42 (OT.fr (RT.list rI)) aj.w (sv c I d) I F ∧ I.length = q.length ∧ OS 42 (OT.fr (RT.list rI)) aj.w (sv V Z W) Z e) bX ⟨g, O, S, p, rfl, rfl, lr, T, rfl, aA⟩ (.refl _) ?_ ?_
   rintro G ⟨ar, I, Z⟩ aj _ _ dh di ⟨F, V, W, e, rfl, rfl, au, aa, aG, aH⟩ bl
   unfold mFleetRoster_1_2_L2424 at bl
   have hm := (unc3E bl)
   refine Cr<|Ts rfl (lT rfl rfl (by omega))<|Te<|Cs<|c_cond_t rfl<|Ck<|Xn<|Cs<|Cb<|Cr ?_
   refine M rfl rfl ?_
   obtain ⟨X, bZ, hm⟩ := bS hm
   obtain ⟨b0, b1, b2⟩ := iS bZ
   obtain ⟨dj, dk, dl, dm, dn, b3, b4, b5, b6, dp, dq⟩ := OS.get (sz := 1) rfl (by decide) aa b2
   obtain ⟨⟨av, aw, rfl, aV⟩, rfl⟩ := b3
   refine Ts rfl (sI b0 rfl rfl b1 b6 b5 sl23)<|Ts rfl (st_load_rd rfl one42 (fun w ho => b4 w _ ho (.cons _ (.cons _ (.cons _ (.cons _ (.cons _ (.cons _ (List.sublist_append_left _ _))))))) 0 _ rfl))<|As rfl rfl<|As rfl rfl<|Te ?_
   obtain ⟨ak, b7, b8⟩ := bS hm
   refine Cj (fun aI e' hp' => ∃ (J : Hp), [(0, iv a), (1, pb j), (2, pb f), (5, pb k), (6, pb m), (11, iv ((G : Int))), (12, sv av X aw), (39, sv c ak d), (40, iv ((q.length : Int))), (41, iv ((G : Int)))] = e' ∧ (j, Cl 45 [sv u t x]) :: (f, Cl 23 [sv c ak d]) :: (k, Cl 27 [iv y, iv z, iv A, iv B, iv C, iv D, iv E]) :: (m, Cl 70 [.func (.func 24) #[] #[pb j, pb f, pb n, pb o, pb k, pb m]]) :: (n, Cl 3 [iv ar]) :: (o, Cl 23 [sv V Z W]) :: (J ++ (e ++ R)) = hp' ∧ aj.Le aI ∧ OS 42 (OT.fr (RT.list rI)) aI.w (sv c ak d) ak J ∧ ak.length = q.length) ?_ ?_
   have hm := b7
   obtain ⟨s, bm, hm⟩ := bS hm
   obtain ⟨_, al, hm⟩ := bS hm
   obtain ⟨dr, bn, hm⟩ := bS hm
   refine Di mixed (.refl _)<|Es 0 rfl (sL 1 rfl one23 rfl rfl)<|E0 1 rfl (sM rfl)<|E0 2 rfl (sM rfl)<|E0 4 rfl (sM rfl)<|Eo<|Da [3, 5] (by kernel_rfl) rfl ?_
   refine Rg lr rfl rfl _ call27 rfl (cSlicesClone _ _ X av aw aV s bm) ?_ ?_
   rintro _ b9 _ H ⟨ca, cb, am, rfl, rfl, aW⟩
   refine ⟨.inr (ss am (.refl _)), ?_⟩
   refine d_in1 [] [_, _, _, _, _, _] am (F ++ (e ++ R)) rfl<|Da [5] (by kernel_rfl) rfl ?_
   refine Rd2 H rfl rfl (u_bslice (el := 3) [(0, iv a)] [iv a] rfl (fun _ => by kernel_rfl)) ?_ ?_
   rintro _ _ ⟨cc, rfl, rfl⟩
   refine ⟨.inr (.cons _ (.cons_cons _ (.cons_cons _ (.cons_cons _ (.cons_cons _ (.cons_cons _ (.cons_cons _ (ss am (.refl _))))))))), ?_⟩
   have al := room_some al
   refine Da [6] (by kernel_rfl) rfl ?_
   refine Rd2 H rfl rfl (uQ (r := rI) (l := s) [_, _, _, _, _, _, _] (F ++ (e ++ R)) [[iv a]] [a] rfl (by decide) sl42 inf3 rfl rfl rfl rfl aW rfl (fun w ho => Rd.own (i := 0) ho rfl) ⟨rfl, trivial⟩ al) ?_ ?_
   rintro _ _ ⟨ab, rfl, ac⟩
   obtain ⟨ax, aX, rfl, _⟩ := ac.form
   refine ⟨.inr (.cons _ (.cons_cons _ (.cons_cons _ (.cons_cons _ (.cons_cons _ (.cons_cons _ (.cons_cons _ (ss ab (.refl _))))))))), ?_⟩
   obtain ⟨aY, ay, az⟩ := iS bn
   obtain ⟨cd, ce, cf, cg, ch, aZ, ci, a0, a1, cj, ck⟩ := OS.get (sz := 1) rfl (by decide) aa az
   obtain ⟨⟨cl, cm, rfl, cn⟩, rfl⟩ := aZ
   refine Ei H (.cons _ (.cons_cons _ (.cons_cons _ (.cons_cons _ (.cons_cons _ (.cons_cons _ (.cons_cons _ (ss ab (.refl _)))))))))<|E0 7 rfl (sI aY rfl rfl ay a1 a0 sl23)<|Eo ?_
   have co : (ax = none ↔ s ++ [a] = []) := (OS.nz ac (by simp))
   refine d_frz [_, _, _, _, _, _, _] ab (F ++ (e ++ R)) rfl ?_
   intro cp K a2
   have a3 := OS.frz (l := s ++ [a]) ac K.cells a2
   refine Da [8] (by kernel_rfl) rfl ?_
   refine Rd2 (H.trans K) rfl rfl (uP ay (sz := 1) (a' := s ++ [a]) rfl [_, _, _, _, _, _, _] (e ++ R) 0 1 [.slice ax (s ++ [a]).length aX] rfl (aa.le (H.trans K)) az rfl rfl rfl siz42 rfl (mc rfl mn) (fun cs hsj hh => by obtain ⟨⟨cq, cr, rfl, ct⟩, rfl⟩ := hh; exact ⟨by first | decide | exact Nat.le_refl _, (RT.list_mk a3), rfl⟩)) ?_ ?_
   rintro _ _ ⟨ad, rfl, a4⟩
   refine ⟨.inl (by kernel_rfl), ?_⟩
   refine d_resp 39 rfl (v' := .slice c (put I (G : Int) (s ++ [a])).length d) (by simp only [put_length])<|d_hresp 2 rfl (o' := Cl 23 [.slice c (put I (G : Int) (s ++ [a])).length d]) (by simp only [put_length])<|Dd (by kernel_rfl) ?_
   obtain rfl := o1 hm
   refine Xp 6 rfl<|Xp 6 rfl<|Xp 6 rfl<|Xp 6 rfl<|Xp 6 rfl<|Xp 6 rfl<|X2 [_, _, _, _, _, _, _] ad e R rfl<|X2 [_, _, _, _, _, _, _] e ad R rfl ?_
   exact xJ ⟨ad, rfl, rfl, (H.trans K), a4, ((put_length _ _ _).trans aG)⟩ (.cons_cons _ (.cons_cons _ (.cons_cons _ (.cons_cons _ (.cons_cons _ (.cons_cons _ (.cons _ (.refl _))))))))
   exact Rn
   exact Rn
   exact Rn
   refine Rd2 lr rfl rfl (u_bslice (el := 3) [(0, iv a)] [iv a] rfl (fun _ => by kernel_rfl)) ?_ ?_
   rintro _ _ ⟨cc, rfl, rfl⟩
   refine ⟨.inr (.cons _ (.refl _)), ?_⟩
   refine Da [3] (by kernel_rfl) rfl ?_
   refine Rg lr rfl rfl _ call27 rfl (cSlicesClone _ _ X av aw aV s bm) ?_ ?_
   rintro _ b9 _ H ⟨ca, cb, am, rfl, rfl, aW⟩
   refine ⟨.inr (ss am (.cons _ (.refl _))), ?_⟩
   refine d_in1 [] [_, _, _, _, _, _, _] am (F ++ (e ++ R)) rfl ?_
   have al := room_some al
   refine Da [6] (by kernel_rfl) rfl ?_
   refine Rd2 H rfl rfl (uQ (r := rI) (l := s) [_, _, _, _, _, _, _] (F ++ (e ++ R)) [[iv a]] [a] rfl (by decide) sl42 inf3 rfl rfl rfl rfl aW rfl (fun w ho => Rd.own (i := 0) ho rfl) ⟨rfl, trivial⟩ al) ?_ ?_
   rintro _ _ ⟨ab, rfl, ac⟩
   obtain ⟨ax, aX, rfl, _⟩ := ac.form
   refine ⟨.inr (.cons _ (.cons_cons _ (.cons_cons _ (.cons_cons _ (.cons_cons _ (.cons_cons _ (.cons_cons _ (ss ab (.refl _))))))))), ?_⟩
   obtain ⟨aY, ay, az⟩ := iS bn
   obtain ⟨cd, ce, cf, cg, ch, aZ, ci, a0, a1, cj, ck⟩ := OS.get (sz := 1) rfl (by decide) aa az
   obtain ⟨⟨cl, cm, rfl, cn⟩, rfl⟩ := aZ
   refine Ei H (.cons _ (.cons_cons _ (.cons_cons _ (.cons_cons _ (.cons_cons _ (.cons_cons _ (.cons_cons _ (ss ab (.refl _)))))))))<|E0 7 rfl (sI aY rfl rfl ay a1 a0 sl23)<|Eo ?_
   have co : (ax = none ↔ s ++ [a] = []) := (OS.nz ac (by simp))
   refine d_frz [_, _, _, _, _, _, _] ab (F ++ (e ++ R)) rfl ?_
   intro cp K a2
   have a3 := OS.frz (l := s ++ [a]) ac K.cells a2
   refine Da [8] (by kernel_rfl) rfl ?_
   refine Rd2 (H.trans K) rfl rfl (uP ay (sz := 1) (a' := s ++ [a]) rfl [_, _, _, _, _, _, _] (e ++ R) 0 1 [.slice ax (s ++ [a]).length aX] rfl (aa.le (H.trans K)) az rfl rfl rfl siz42 rfl (mc rfl mn) (fun cs hsj hh => by obtain ⟨⟨cq, cr, rfl, ct⟩, rfl⟩ := hh; exact ⟨by first | decide | exact Nat.le_refl _, (RT.list_mk a3), rfl⟩)) ?_ ?_
   rintro _ _ ⟨ad, rfl, a4⟩
   refine ⟨.inl (by kernel_rfl), ?_⟩
   refine d_resp 39 rfl (v' := .slice c (put I (G : Int) (s ++ [a])).length d) (by simp only [put_length])<|d_hresp 2 rfl (o' := Cl 23 [.slice c (put I (G : Int) (s ++ [a])).length d]) (by simp only [put_length])<|Dd (by kernel_rfl) ?_
   obtain rfl := o1 hm
   refine Xp 6 rfl<|Xp 6 rfl<|Xp 6 rfl<|Xp 6 rfl<|Xp 6 rfl<|Xp 6 rfl<|X2 [_, _, _, _, _, _, _] ad e R rfl<|X2 [_, _, _, _, _, _, _] e ad R rfl ?_
   exact xJ ⟨ad, rfl, rfl, (H.trans K), a4, ((put_length _ _ _).trans aG)⟩ (.cons_cons _ (.cons_cons _ (.cons_cons _ (.cons_cons _ (.cons_cons _ (.cons_cons _ (.cons _ (.refl _))))))))
   exact Rn
   exact Rn
   exact Rn
   exact Rn
   rintro aI _ _ ⟨J, rfl, rfl, an, a5, bo⟩
   have hm := b8
   obtain ⟨⟨cu, ae, a6⟩, cv, cw⟩ := bS hm
   refine Cj (fun aJ e' hp' => ∃ (a7 : Hp), ∃ (aK : OA), ∃ (aL : Nat), ∃ (af : Hp), [(0, iv a), (1, pb j), (2, pb f), (5, pb k), (6, pb m), (11, iv ((G : Int))), (12, sv av X aw), (39, sv c ae d), (40, iv ((q.length : Int))), (41, iv ((G : Int)))] = e' ∧ (j, Cl 45 [sv u t x]) :: (f, Cl 23 [sv c ae d]) :: (k, Cl 27 [iv y, iv z, iv A, iv B, iv C, iv D, iv E]) :: (m, Cl 70 [.func (.func 24) #[] #[pb j, pb f, pb n, pb o, pb k, pb m]]) :: (n, Cl 3 [iv cu]) :: (o, Cl 23 [sv aK a6 aL]) :: (a7 ++ (af ++ R)) = hp' ∧ aI.Le aJ ∧ OS 42 (OT.fr (RT.list rI)) aJ.w (sv c ae d) ae a7 ∧ ae.length = q.length ∧ OS 42 (OT.fr (RT.list rI)) aJ.w (sv aK a6 aL) a6 af) ?_ ?_
   have hm := cv
   refine Cs ?_
   obtain ⟨cx, cy, hm⟩ := bS hm
   obtain ⟨cz, cA, hm⟩ := bS hm
   refine Di mixed (.refl _)<|Es 0 rfl (sL 0 rfl one45 rfl rfl)<|Es 1 rfl (sL 1 rfl one23 rfl rfl)<|E0 2 rfl (sM rfl) ?_
   obtain ⟨cB, cC, cD⟩ := iS cy
   obtain ⟨ds, dt, du, dv, dw, cE, cG, cH, cI, dx, dy⟩ := OS.get (sz := 1) rfl (by decide) a5 cD
   obtain ⟨⟨cJ, cK, rfl, cM⟩, rfl⟩ := cE
   refine E0 3 rfl (sI cB rfl rfl cC cI cH sl23)<|Es 4 rfl (st_load_rd rfl one42 (fun w ho => cG w _ ho (.cons _ (.cons _ (.cons _ (.cons _ (.cons _ (.cons _ (List.sublist_append_left _ _))))))) 0 _ rfl))<|Es 5 rfl (sD (vs := [_, _, _, _, _, _, _]) 2 7 rfl agg27 rfl rfl rfl)<|Eo<|Da [6] (by kernel_rfl) rfl ?_
   refine Rd2 lr rfl rfl (uW _ call28 rfl (fun w ho => cFleetFits _ [] t cx (⟨y, z, A, B, C, D, E⟩ : FleetLimits) u x cJ cK ((ao.le (au.trans an)).old ho) (cM.old ho) cz cA) (fun _ _ _ h => h.2.symm)) ?_ ?_
   rintro _ _ ⟨⟨_, rfl, _⟩, rfl⟩
   refine ⟨.inr (.refl _), ?_⟩
   refine Dd (by kernel_rfl)<|Xn ?_
   refine Cc _ rfl (fun a8 => ?_) (fun a8 => ?_)
   rw [if_pos a8] at hm
   refine Cg<|Ts rfl (sL 3 rfl one70 rfl rfl)<|M rfl rfl ?_
   obtain ⟨_, a9, hm⟩ := bS hm
   have a9 := (kS a9).2
   refine Ts rfl (sa rfl rfl a9) ?_
   obtain ⟨⟨cN, ba, cO⟩, cP, hm⟩ := bS hm
   have hm := (unc3E hm)
   refine t_pullb 3 rfl<|t_pullb 3 rfl<|t_pullb 5 rfl<|t_pullb 5 rfl<|t_pullb 5 rfl<|t_pullb 5 rfl<|t_front2 [_, _, _, _, _, _] J e R rfl<|t_front2 [_, _, _, _, _, _] e J R rfl<|t_out2 [_, _, _, _, _, _] [] J e R rfl<|Tv #[] #[pb j, pb f, pb n, pb o, pb k, pb m] [iv (a + 1)] rfl rfl call24 rfl (ih _ _ (a + 1) t ar y z A B C D E ak Z j f n o k m u x c d J V W e (ao.le (au.trans an)) a5 (aH.le an) cN ba cO cP) ?_
   rintro _ dz _ cQ ⟨aM, cR, cT, aN, rfl, rfl, cU, bb, cV⟩
   refine t_in2 [_, _, _, _, _, _] [] aM aN R rfl<|Tr 39 rfl (v' := sv c ba d) (by show Value.slice _ _ _ = Value.slice _ _ _; rw [bb])<|t_hresp 1 rfl (o' := Cl 23 [sv c ba d]) (by simp only [sv, bb])<|Tn ?_
   obtain ⟨rfl, rfl, rfl⟩ := some3 hm
   refine Xp 3 rfl<|Xp 3 rfl<|Xp 5 rfl<|Xp 5 rfl<|Xp 5 rfl<|Xp 5 rfl<|X2 [_, _, _, _, _, _] aM aN R rfl<|X2 [_, _, _, _, _, _] aN aM R rfl ?_
   exact xJ ⟨aM, cR, cT, aN, rfl, rfl, cQ, cU, (bb.trans bo), cV⟩ (.refl _)
   rw [if_neg (fun hh => Bool.noConfusion (hh.symm.trans a8))] at hm
   refine Ck ?_
   obtain ⟨rfl, rfl, rfl⟩ := some3 hm
   refine Xp 5 rfl<|Xp 5 rfl<|Xp 5 rfl<|Xp 5 rfl<|Xp 5 rfl<|Xp 5 rfl<|X2 [_, _, _, _, _, _] J e R rfl<|X2 [_, _, _, _, _, _] e J R rfl ?_
   exact xJ ⟨J, V, W, e, rfl, rfl, lr, a5, bo, (aH.le an)⟩ (.refl _)
   exact Rn
   rintro aJ _ _ ⟨a7, aK, aL, af, rfl, rfl, bp, bq, cW, cX⟩
   have hm := (unc3E cw)
   refine Cg<|Ts rfl (sL 1 rfl one23 rfl rfl)<|M rfl rfl<|M rfl rfl ?_
   obtain ⟨dA, cY, hm⟩ := bS hm
   obtain ⟨cZ, br, bs⟩ := iS cY
   obtain ⟨dB, dC, dD, dE, dF, c0, dG, c1, c2, dH, dI⟩ := OS.get (sz := 1) rfl (by decide) bq bs
   obtain ⟨⟨dJ, dK, rfl, dL⟩, rfl⟩ := c0
   refine Ts rfl (sI cZ rfl rfl br c2 c1 sl23)<|Do rfl (uP br (sz := 1) (a' := X) rfl [_, _, _, _, _, _] (af ++ R) 0 1 [sv av X aw] rfl bq bs rfl rfl rfl siz42 rfl (mc rfl mn) (fun cs hsj hh => by obtain ⟨⟨dM, dN, rfl, dO⟩, rfl⟩ := hh; exact ⟨by first | decide | exact Nat.le_refl _, (RT.list_mk (aV.le (an.trans bp))), rfl⟩)) ?_
   rintro _ _ ⟨bc, rfl, c3⟩
   refine Tr 39 rfl (v' := .slice c (put ae (G : Int) X).length d) (by simp only [put_length])<|t_hresp 1 rfl (o' := Cl 23 [.slice c (put ae (G : Int) X).length d]) (by simp only [put_length])<|Tn<|Xm<|Xn<|Cg<|Ts rfl (sa rfl rfl (by omega))<|M rfl rfl<|Tn<|Xp 5 rfl ?_
   refine Xp 5 rfl<|Xp 5 rfl<|Xp 5 rfl<|Xp 5 rfl<|Xp 5 rfl<|X2 [_, _, _, _, _, _] bc af R rfl<|X2 [_, _, _, _, _, _] af bc R rfl ?_
   obtain rfl := o1 hm
   exact xS ⟨bc, aK, aL, af, rfl, rfl, ((au.trans (an.trans bp))), c3, ((put_length _ _ _).trans cW), cX⟩ (.refl _)
   rintro aj _ _ ⟨F, V, W, e, rfl, rfl, au, aa, aG, aH⟩
   have hm := (unc3E bY)
   refine Cr<|Ts rfl (lF rfl rfl (by omega))<|Te<|Cs<|c_cond_f rfl<|Ce<|Xe<|Xe<|Xo ?_
   obtain ⟨rfl, rfl, rfl⟩ := some3 hm
   refine Xp 3 rfl<|Xp 3 rfl<|Xp 5 rfl<|Xp 5 rfl<|Xp 5 rfl<|Xp 5 rfl<|X2 [_, _, _, _, _, _] F e R rfl<|X2 [_, _, _, _, _, _] e F R rfl ?_
   exact endM au rfl (.refl _) ⟨F, V, W, e, rfl, rfl, aa, aG, aH⟩

set_option maxRecDepth 20000 in
theorem cFleetRoster_1 : ∀ (N : Nat) (b : Base) (R : Hp) (a : Int) (t : (List FleetShift)) (ag : Int) (y : Int) (z : Int) (A : Int) (B : Int) (C : Int) (D : Int) (E : Int) (q : (List (List Int))) (K : (List (List Int))) (j : Nat) (f : Nat) (n : Nat) (o : Nat) (k : Nat) (m : Nat) (u : OA) (x : Nat) (c : OA) (d : Nat) (g : Hp) (L : OA) (S : Nat) (p : Hp) (ao : FZ rFleetShift b.w u x t) (T : OS 42 (OT.fr (RT.list rI)) b.w (sv c q d) q g) (aA : OS 42 (OT.fr (RT.list rI)) b.w (sv L K S) K p) (be : (L = none ↔ K = [])) (aB : Int) (Y : (List (List Int))) (ah : (List (List Int))) (hm : mFleetRoster_1 N a t ag y z A B C D E q K = some (aB, Y, ah)),
    CallsG Try.prog 24 [iv a, pb j, pb f, pb n, pb o, pb k, pb m] b ((j, Cl 45 [sv u t x]) :: (f, Cl 23 [sv c q d]) :: (n, Cl 3 [iv ag]) :: (o, Cl 23 [sv L K S]) :: (k, Cl 27 [iv y, iv z, iv A, iv B, iv C, iv D, iv E]) :: (m, Cl 70 [.func (.func 24) #[] #[pb j, pb f, pb n, pb o, pb k, pb m]]) :: (g ++ (p ++ R))) (fun v b' hp' => ∃ (bf : Hp), ∃ (bg : OA), ∃ (bh : Nat), ∃ (bi : Hp), .tuple #[] = v ∧ (j, Cl 45 [sv u t x]) :: (f, Cl 23 [sv c Y d]) :: (n, Cl 3 [iv aB]) :: (o, Cl 23 [sv bg ah bh]) :: (k, Cl 27 [iv y, iv z, iv A, iv B, iv C, iv D, iv E]) :: (m, Cl 70 [.func (.func 24) #[] #[pb j, pb f, pb n, pb o, pb k, pb m]]) :: (bf ++ (bi ++ R)) = hp' ∧ OS 42 (OT.fr (RT.list rI)) b'.w (sv c Y d) Y bf ∧ Y.length = q.length ∧ OS 42 (OT.fr (RT.list rI)) b'.w (sv bg ah bh) ah bi) := by
  intro N
  induction N with
  | zero =>
    intro b R a t ag y z A B C D E q K j f n o k m u x c d g L S p ao T aA be aB Y ah hm
    unfold mFleetRoster_1 at hm
    cases hm
  | succ N ih =>
   intro b R a t ag y z A B C D E q K j f n o k m u x c d g L S p ao T aA be aB Y ah hm
   refine fE 70 Try.func24 rfl Try.ntmps24 rfl ?_
   unfold mFleetRoster_1 at hm
   dsimp only at hm
   refine Cs<|Cr<|M rfl rfl<|Ts rfl (sL 0 rfl one45 rfl rfl)<|Ts rfl (sE rfl sl45)<|Ts rfl (q1 rfl rfl)<|Te ?_
   refine Cc _ rfl (fun aO => ?_) (fun aO => ?_)
   rw [if_pos (of_decide_eq_true aO)] at hm
   refine Cr<|As rfl rfl<|Te<|Cs<|Cr<|Ts rfl (sL 1 rfl one23 rfl rfl)<|Ts rfl (sE rfl sl23)<|M rfl rfl<|Te<|Cb ?_
   have c7 : q.length ≤ 9223372036854775807 := (OS.len T)
   refine Cp 5 rfl<|Cp 5 rfl<|Cp 5 rfl<|Cp 5 rfl<|Cp 5 rfl<|Cp 5 rfl<|c_front2 [_, _, _, _, _, _] g p R rfl<|c_front2 [_, _, _, _, _, _] p g R rfl ?_
   obtain ⟨aC, bw, bx⟩ := bS hm
   refine cS (fun bj => fun aC => fun aq e' hp' => [(1, pb j), (2, pb f), (3, pb n), (4, pb o), (8, iv aC), (17, sv c q d), (18, iv ((q.length : Int))), (19, iv ((bj : Int)))] = e' ∧ (j, Cl 45 [sv u t x]) :: (f, Cl 23 [sv c q d]) :: (n, Cl 3 [iv ag]) :: (o, Cl 23 [sv L K S]) :: (k, Cl 27 [iv y, iv z, iv A, iv B, iv C, iv D, iv E]) :: (m, Cl 70 [.func (.func 24) #[] #[pb j, pb f, pb n, pb o, pb k, pb m]]) :: (g ++ (p ++ R)) = hp' ∧ b.Le aq) bw ⟨rfl, rfl, lr⟩ (.refl _) ?_ ?_
   rintro bj aC aq _ _ c8 da ⟨rfl, rfl, U⟩ bk
   unfold mFleetRoster_1_L2318 at bk
   have hm := bk
   refine Cr<|Ts rfl (lT rfl rfl (by omega))<|Te<|Cs<|c_cond_t rfl<|Ck<|Xn<|Cs<|Cb<|Cr ?_
   obtain ⟨bz, bA, hm⟩ := bS hm
   obtain ⟨bB, bC, bD⟩ := iS bA
   obtain ⟨db, dc, dd, de, df, bE, bF, bG, bH, dg, dh⟩ := OS.get (sz := 1) rfl (by decide) (T.le U) bD
   obtain ⟨⟨bI, bJ, rfl, bK⟩, rfl⟩ := bE
   refine Ts rfl (sI bB rfl rfl bC bH bG sl23)<|Ts rfl (st_load_rd rfl one42 (fun w ho => bF w _ ho (.cons _ (.cons _ (.cons _ (.cons _ (.cons _ (.cons _ (List.sublist_append_left _ _))))))) 0 _ rfl))<|As rfl rfl<|Te<|Cg<|M rfl rfl<|Ts rfl (sL 0 rfl one45 rfl rfl)<|M rfl rfl ?_
   obtain ⟨bL, bM, hm⟩ := bS hm
   refine Do rfl (uW _ call25 rfl (fun w ho => cFleetLoad _ [] t bz u x bI bJ ((ao.le U).old ho) (bK.old ho) bL bM) (fun _ _ _ h => h.2.symm)) ?_
   rintro _ _ ⟨⟨_, rfl, _⟩, rfl⟩
   refine Ts rfl (st_max rfl rfl)<|As rfl rfl<|Tn<|Xm<|Xn<|Cg<|Ts rfl (sa rfl rfl (by omega))<|M rfl rfl<|Tn<|Xp 5 rfl ?_
   refine Xp 5 rfl<|Xp 5 rfl<|Xp 5 rfl<|Xp 5 rfl<|Xp 5 rfl<|X2 [_, _, _, _, _, _] g p R rfl<|X2 [_, _, _, _, _, _] p g R rfl ?_
   obtain rfl := o1 hm
   exact xS ⟨rfl, rfl, (U)⟩ (.refl _)
   rintro aq _ _ ⟨rfl, rfl, U⟩
   have hm := bx
   refine Cr<|Ts rfl (lF rfl rfl (by omega))<|Te<|Cs<|c_cond_f rfl<|Ce<|Xe<|Xe<|Xo<|Xn ?_
   obtain ⟨⟨bN, aP⟩, bO, bP⟩ := bS hm
   refine Cj (fun aQ e' hp' => ∃ (aD : OA), ∃ (aE : Nat), ∃ (ai : Hp), [] = e' ∧ (j, Cl 45 [sv u t x]) :: (f, Cl 23 [sv c q d]) :: (n, Cl 3 [iv bN]) :: (o, Cl 23 [sv aD aP aE]) :: (k, Cl 27 [iv y, iv z, iv A, iv B, iv C, iv D, iv E]) :: (m, Cl 70 [.func (.func 24) #[] #[pb j, pb f, pb n, pb o, pb k, pb m]]) :: (g ++ (ai ++ R)) = hp' ∧ aq.Le aQ ∧ OS 42 (OT.fr (RT.list rI)) aQ.w (sv aD aP aE) aP ai) ?_ ?_
   have hm := bO
   obtain ⟨bQ, bR, bT⟩ := bS hm
   refine Cj (fun bl e' hp' => [(2, pb f), (3, pb n), (4, pb o), (8, iv aC), (35, bv bQ)] = e' ∧ (f, Cl 23 [sv c q d]) :: (n, Cl 3 [iv ag]) :: (o, Cl 23 [sv L K S]) :: (j, Cl 45 [sv u t x]) :: (k, Cl 27 [iv y, iv z, iv A, iv B, iv C, iv D, iv E]) :: (m, Cl 70 [.func (.func 24) #[] #[pb j, pb f, pb n, pb o, pb k, pb m]]) :: (g ++ (p ++ R)) = hp' ∧ aq.Le bl) ?_ ?_
   have hm := bR
   refine Cg<|Ts rfl (sL 2 rfl one3 rfl rfl) ?_
   refine Tb rfl (q3 rfl rfl) (fun aR => ?_) (fun aR => ?_)
   rw [if_pos aR] at hm
   refine M rfl rfl<|No 31 rfl rfl rfl rfl rfl<|No 31 rfl rfl rfl rfl rfl<|No 31 rfl rfl rfl rfl rfl<|Ts rfl (pT rfl rfl)<|Tn ?_
   obtain rfl := o1 hm
   refine Xp 5 rfl<|Xp 5 rfl<|Xp 2 rfl<|Xp 5 rfl<|Xp 5 rfl<|Xp 5 rfl<|X2 [_, _, _, _, _, _] g p R rfl<|X2 [_, _, _, _, _, _] p g R rfl ?_
   exact xJ ⟨rfl, rfl, lr⟩ (.refl _)
   rw [if_neg aR] at hm
   refine M rfl rfl<|Ys 31 rfl rfl rfl<|M rfl rfl<|Ys 31 rfl rfl rfl<|Ts rfl (sL 2 rfl one3 rfl rfl)<|Ys 31 rfl rfl rfl<|Ts rfl (q3 rfl rfl)<|Ts rfl (pF rfl rfl)<|Tn ?_
   obtain rfl := o1 hm
   refine Xp 5 rfl<|Xp 5 rfl<|Xp 2 rfl<|Xp 5 rfl<|Xp 5 rfl<|Xp 5 rfl<|X2 [_, _, _, _, _, _] g p R rfl<|X2 [_, _, _, _, _, _] p g R rfl ?_
   exact xJ ⟨rfl, rfl, lr⟩ (.refl _)
   rintro bl _ _ ⟨rfl, rfl, aF⟩
   have hm := bT
   refine Cc _ rfl (fun aS => ?_) (fun aS => ?_)
   rw [if_pos aS] at hm
   refine Cg<|Ts rfl (sL 0 rfl one23 rfl rfl) ?_
   obtain ⟨_, aT, hm⟩ := bS hm
   have aT := room_some aT
   refine Do rfl (u_cloneOwn (r := (RT.list rI)) (l := q) (sz := 1) (by_ := 24) [_, _, _, _, _, _] (g ++ (p ++ R)) rfl clSlicesClone_2 call26 rfl rfl (T.le (U.trans aF)) (.cons _ (.cons _ (.cons _ (.cons _ (.cons _ (.cons _ (List.sublist_append_left _ _))))))) aT) ?_
   rintro _ _ ⟨bU, bV, aU, rfl, rfl, bW⟩
   refine M rfl rfl<|Do rfl (uS 2 rfl rfl siz23 rfl rfl (by simp)) ?_
   rintro _ _ rfl
   refine Do rfl (uS 1 rfl rfl siz3 rfl rfl (by simp)) ?_
   rintro _ _ rfl
   refine Tn ?_
   obtain ⟨rfl, rfl⟩ := some2 hm
   refine Xp 5 rfl<|Xp 5 rfl<|Xp 4 rfl<|Xp 4 rfl<|Xp 4 rfl<|Xp 5 rfl<|X2 [_, _, _, _, _, _] aU g (p ++ R) rfl ?_
   exact xJ ⟨bU, bV, aU, rfl, rfl, aF, bW⟩ (.cons_cons _ (.cons_cons _ (.cons_cons _ (.cons_cons _ (.cons_cons _ (.cons_cons _ (sp g (sp aU (ss p (.refl _))))))))))
   rw [if_neg (fun hh => Bool.noConfusion (hh.symm.trans aS))] at hm
   refine Ck ?_
   obtain ⟨rfl, rfl⟩ := some2 hm
   refine Xp 5 rfl<|Xp 5 rfl<|Xp 4 rfl<|Xp 4 rfl<|Xp 4 rfl<|Xp 5 rfl<|X2 [_, _, _, _, _, _] g p R rfl<|X2 [_, _, _, _, _, _] p g R rfl ?_
   exact xJ ⟨L, S, p, rfl, rfl, aF, (aA.le (U.trans aF))⟩ (.refl _)
   rintro aQ _ _ ⟨aD, aE, ai, rfl, rfl, bm, bX⟩
   have hm := (unc2E bP)
   refine Ct<|Xr ?_
   obtain ⟨rfl, rfl, rfl⟩ := some3 hm
   refine Xp 5 rfl<|Xp 5 rfl<|Xp 5 rfl<|Xp 5 rfl<|Xp 5 rfl<|Xp 5 rfl<|X2 [_, _, _, _, _, _] g ai R rfl<|X2 [_, _, _, _, _, _] ai g R rfl ?_
   have bY := (T.le (U.trans bm))
   exact rM (rs := []) (vs := []) trivial ⟨g, aD, aE, ai, rfl, rfl, bY, rfl, bX⟩ (.refl _) (U.trans bm)
   rw [if_neg (of_decide_eq_false aO)] at hm
   refine Ck<|Xn<|Cr<|Ts rfl (sL 1 rfl one23 rfl rfl)<|Ts rfl (sE rfl sl23)<|M rfl rfl<|Te<|Cb ?_
   have di : q.length ≤ 9223372036854775807 := (OS.len T)
   refine Cp 3 rfl<|Cp 3 rfl<|Cp 5 rfl<|Cp 5 rfl<|Cp 5 rfl<|Cp 5 rfl<|c_front2 [_, _, _, _, _, _] g p R rfl<|c_front2 [_, _, _, _, _, _] p g R rfl ?_
   obtain ⟨⟨ar, I, Z⟩, bZ, b0⟩ := bS hm
   refine cS (fun G => unc3 fun ar I Z => fun aj e' hp' => ∃ (F : Hp), ∃ (V : OA), ∃ (W : Nat), ∃ (e : Hp), [(0, iv a), (1, pb j), (2, pb f), (5, pb k), (6, pb m), (39, sv c I d), (40, iv ((q.length : Int))), (41, iv ((G : Int)))] = e' ∧ (j, Cl 45 [sv u t x]) :: (f, Cl 23 [sv c I d]) :: (k, Cl 27 [iv y, iv z, iv A, iv B, iv C, iv D, iv E]) :: (m, Cl 70 [.func (.func 24) #[] #[pb j, pb f, pb n, pb o, pb k, pb m]]) :: (n, Cl 3 [iv ar]) :: (o, Cl 23 [sv V Z W]) :: (F ++ (e ++ R)) = hp' ∧ b.Le aj ∧ OS 42 (OT.fr (RT.list rI)) aj.w (sv c I d) I F ∧ I.length = q.length ∧ OS 42 (OT.fr (RT.list rI)) aj.w (sv V Z W) Z e) bZ ⟨g, L, S, p, rfl, rfl, lr, T, rfl, aA⟩ (.refl _) ?_ ?_
   rintro G ⟨ar, I, Z⟩ aj _ _ dj dk ⟨F, V, W, e, rfl, rfl, au, aa, aG, aH⟩ bn
   unfold mFleetRoster_1_L2425 at bn
   have hm := (unc3E bn)
   refine Cr<|Ts rfl (lT rfl rfl (by omega))<|Te<|Cs<|c_cond_t rfl<|Ck<|Xn<|Cs<|Cb<|Cr ?_
   refine M rfl rfl ?_
   obtain ⟨X, b1, hm⟩ := bS hm
   obtain ⟨b2, b3, b4⟩ := iS b1
   obtain ⟨dl, dm, dn, dp, dq, b5, b6, b7, b8, dr, ds⟩ := OS.get (sz := 1) rfl (by decide) aa b4
   obtain ⟨⟨av, aw, rfl, aV⟩, rfl⟩ := b5
   refine Ts rfl (sI b2 rfl rfl b3 b8 b7 sl23)<|Ts rfl (st_load_rd rfl one42 (fun w ho => b6 w _ ho (.cons _ (.cons _ (.cons _ (.cons _ (.cons _ (.cons _ (List.sublist_append_left _ _))))))) 0 _ rfl))<|As rfl rfl<|As rfl rfl<|Te ?_
   obtain ⟨ak, b9, ca⟩ := bS hm
   refine Cj (fun aI e' hp' => ∃ (J : Hp), [(0, iv a), (1, pb j), (2, pb f), (5, pb k), (6, pb m), (11, iv ((G : Int))), (12, sv av X aw), (39, sv c ak d), (40, iv ((q.length : Int))), (41, iv ((G : Int)))] = e' ∧ (j, Cl 45 [sv u t x]) :: (f, Cl 23 [sv c ak d]) :: (k, Cl 27 [iv y, iv z, iv A, iv B, iv C, iv D, iv E]) :: (m, Cl 70 [.func (.func 24) #[] #[pb j, pb f, pb n, pb o, pb k, pb m]]) :: (n, Cl 3 [iv ar]) :: (o, Cl 23 [sv V Z W]) :: (J ++ (e ++ R)) = hp' ∧ aj.Le aI ∧ OS 42 (OT.fr (RT.list rI)) aI.w (sv c ak d) ak J ∧ ak.length = q.length) ?_ ?_
   have hm := b9
   obtain ⟨s, bo, hm⟩ := bS hm
   obtain ⟨_, al, hm⟩ := bS hm
   obtain ⟨dt, bp, hm⟩ := bS hm
   refine Di mixed (.refl _)<|Es 0 rfl (sL 1 rfl one23 rfl rfl)<|E0 1 rfl (sM rfl)<|E0 2 rfl (sM rfl)<|E0 4 rfl (sM rfl)<|Eo<|Da [3, 5] (by kernel_rfl) rfl ?_
   refine Rg lr rfl rfl _ call27 rfl (cSlicesClone _ _ X av aw aV s bo) ?_ ?_
   rintro _ cb _ H ⟨cc, cd, am, rfl, rfl, aW⟩
   refine ⟨.inr (ss am (.refl _)), ?_⟩
   refine d_in1 [] [_, _, _, _, _, _] am (F ++ (e ++ R)) rfl<|Da [5] (by kernel_rfl) rfl ?_
   refine Rd2 H rfl rfl (u_bslice (el := 3) [(0, iv a)] [iv a] rfl (fun _ => by kernel_rfl)) ?_ ?_
   rintro _ _ ⟨ce, rfl, rfl⟩
   refine ⟨.inr (.cons _ (.cons_cons _ (.cons_cons _ (.cons_cons _ (.cons_cons _ (.cons_cons _ (.cons_cons _ (ss am (.refl _))))))))), ?_⟩
   have al := room_some al
   refine Da [6] (by kernel_rfl) rfl ?_
   refine Rd2 H rfl rfl (uQ (r := rI) (l := s) [_, _, _, _, _, _, _] (F ++ (e ++ R)) [[iv a]] [a] rfl (by decide) sl42 inf3 rfl rfl rfl rfl aW rfl (fun w ho => Rd.own (i := 0) ho rfl) ⟨rfl, trivial⟩ al) ?_ ?_
   rintro _ _ ⟨ab, rfl, ac⟩
   obtain ⟨ax, aX, rfl, _⟩ := ac.form
   refine ⟨.inr (.cons _ (.cons_cons _ (.cons_cons _ (.cons_cons _ (.cons_cons _ (.cons_cons _ (.cons_cons _ (ss ab (.refl _))))))))), ?_⟩
   obtain ⟨aY, ay, az⟩ := iS bp
   obtain ⟨cf, cg, ch, ci, cj, aZ, ck, a0, a1, cl, cm⟩ := OS.get (sz := 1) rfl (by decide) aa az
   obtain ⟨⟨cn, co, rfl, cp⟩, rfl⟩ := aZ
   refine Ei H (.cons _ (.cons_cons _ (.cons_cons _ (.cons_cons _ (.cons_cons _ (.cons_cons _ (.cons_cons _ (ss ab (.refl _)))))))))<|E0 7 rfl (sI aY rfl rfl ay a1 a0 sl23)<|Eo ?_
   have cq : (ax = none ↔ s ++ [a] = []) := (OS.nz ac (by simp))
   refine d_frz [_, _, _, _, _, _, _] ab (F ++ (e ++ R)) rfl ?_
   intro cr O a2
   have a3 := OS.frz (l := s ++ [a]) ac O.cells a2
   refine Da [8] (by kernel_rfl) rfl ?_
   refine Rd2 (H.trans O) rfl rfl (uP ay (sz := 1) (a' := s ++ [a]) rfl [_, _, _, _, _, _, _] (e ++ R) 0 1 [.slice ax (s ++ [a]).length aX] rfl (aa.le (H.trans O)) az rfl rfl rfl siz42 rfl (mc rfl mn) (fun cs hsj hh => by obtain ⟨⟨ct, cu, rfl, cv⟩, rfl⟩ := hh; exact ⟨by first | decide | exact Nat.le_refl _, (RT.list_mk a3), rfl⟩)) ?_ ?_
   rintro _ _ ⟨ad, rfl, a4⟩
   refine ⟨.inl (by kernel_rfl), ?_⟩
   refine d_resp 39 rfl (v' := .slice c (put I (G : Int) (s ++ [a])).length d) (by simp only [put_length])<|d_hresp 2 rfl (o' := Cl 23 [.slice c (put I (G : Int) (s ++ [a])).length d]) (by simp only [put_length])<|Dd (by kernel_rfl) ?_
   obtain rfl := o1 hm
   refine Xp 6 rfl<|Xp 6 rfl<|Xp 6 rfl<|Xp 6 rfl<|Xp 6 rfl<|Xp 6 rfl<|X2 [_, _, _, _, _, _, _] ad e R rfl<|X2 [_, _, _, _, _, _, _] e ad R rfl ?_
   exact xJ ⟨ad, rfl, rfl, (H.trans O), a4, ((put_length _ _ _).trans aG)⟩ (.cons_cons _ (.cons_cons _ (.cons_cons _ (.cons_cons _ (.cons_cons _ (.cons_cons _ (.cons _ (.refl _))))))))
   exact Rn
   exact Rn
   exact Rn
   refine Rd2 lr rfl rfl (u_bslice (el := 3) [(0, iv a)] [iv a] rfl (fun _ => by kernel_rfl)) ?_ ?_
   rintro _ _ ⟨ce, rfl, rfl⟩
   refine ⟨.inr (.cons _ (.refl _)), ?_⟩
   refine Da [3] (by kernel_rfl) rfl ?_
   refine Rg lr rfl rfl _ call27 rfl (cSlicesClone _ _ X av aw aV s bo) ?_ ?_
   rintro _ cb _ H ⟨cc, cd, am, rfl, rfl, aW⟩
   refine ⟨.inr (ss am (.cons _ (.refl _))), ?_⟩
   refine d_in1 [] [_, _, _, _, _, _, _] am (F ++ (e ++ R)) rfl ?_
   have al := room_some al
   refine Da [6] (by kernel_rfl) rfl ?_
   refine Rd2 H rfl rfl (uQ (r := rI) (l := s) [_, _, _, _, _, _, _] (F ++ (e ++ R)) [[iv a]] [a] rfl (by decide) sl42 inf3 rfl rfl rfl rfl aW rfl (fun w ho => Rd.own (i := 0) ho rfl) ⟨rfl, trivial⟩ al) ?_ ?_
   rintro _ _ ⟨ab, rfl, ac⟩
   obtain ⟨ax, aX, rfl, _⟩ := ac.form
   refine ⟨.inr (.cons _ (.cons_cons _ (.cons_cons _ (.cons_cons _ (.cons_cons _ (.cons_cons _ (.cons_cons _ (ss ab (.refl _))))))))), ?_⟩
   obtain ⟨aY, ay, az⟩ := iS bp
   obtain ⟨cf, cg, ch, ci, cj, aZ, ck, a0, a1, cl, cm⟩ := OS.get (sz := 1) rfl (by decide) aa az
   obtain ⟨⟨cn, co, rfl, cp⟩, rfl⟩ := aZ
   refine Ei H (.cons _ (.cons_cons _ (.cons_cons _ (.cons_cons _ (.cons_cons _ (.cons_cons _ (.cons_cons _ (ss ab (.refl _)))))))))<|E0 7 rfl (sI aY rfl rfl ay a1 a0 sl23)<|Eo ?_
   have cq : (ax = none ↔ s ++ [a] = []) := (OS.nz ac (by simp))
   refine d_frz [_, _, _, _, _, _, _] ab (F ++ (e ++ R)) rfl ?_
   intro cr O a2
   have a3 := OS.frz (l := s ++ [a]) ac O.cells a2
   refine Da [8] (by kernel_rfl) rfl ?_
   refine Rd2 (H.trans O) rfl rfl (uP ay (sz := 1) (a' := s ++ [a]) rfl [_, _, _, _, _, _, _] (e ++ R) 0 1 [.slice ax (s ++ [a]).length aX] rfl (aa.le (H.trans O)) az rfl rfl rfl siz42 rfl (mc rfl mn) (fun cs hsj hh => by obtain ⟨⟨ct, cu, rfl, cv⟩, rfl⟩ := hh; exact ⟨by first | decide | exact Nat.le_refl _, (RT.list_mk a3), rfl⟩)) ?_ ?_
   rintro _ _ ⟨ad, rfl, a4⟩
   refine ⟨.inl (by kernel_rfl), ?_⟩
   refine d_resp 39 rfl (v' := .slice c (put I (G : Int) (s ++ [a])).length d) (by simp only [put_length])<|d_hresp 2 rfl (o' := Cl 23 [.slice c (put I (G : Int) (s ++ [a])).length d]) (by simp only [put_length])<|Dd (by kernel_rfl) ?_
   obtain rfl := o1 hm
   refine Xp 6 rfl<|Xp 6 rfl<|Xp 6 rfl<|Xp 6 rfl<|Xp 6 rfl<|Xp 6 rfl<|X2 [_, _, _, _, _, _, _] ad e R rfl<|X2 [_, _, _, _, _, _, _] e ad R rfl ?_
   exact xJ ⟨ad, rfl, rfl, (H.trans O), a4, ((put_length _ _ _).trans aG)⟩ (.cons_cons _ (.cons_cons _ (.cons_cons _ (.cons_cons _ (.cons_cons _ (.cons_cons _ (.cons _ (.refl _))))))))
   exact Rn
   exact Rn
   exact Rn
   exact Rn
   rintro aI _ _ ⟨J, rfl, rfl, an, a5, bq⟩
   have hm := ca
   obtain ⟨⟨cw, ae, a6⟩, cx, cy⟩ := bS hm
   refine Cj (fun aJ e' hp' => ∃ (a7 : Hp), ∃ (aK : OA), ∃ (aL : Nat), ∃ (af : Hp), [(0, iv a), (1, pb j), (2, pb f), (5, pb k), (6, pb m), (11, iv ((G : Int))), (12, sv av X aw), (39, sv c ae d), (40, iv ((q.length : Int))), (41, iv ((G : Int)))] = e' ∧ (j, Cl 45 [sv u t x]) :: (f, Cl 23 [sv c ae d]) :: (k, Cl 27 [iv y, iv z, iv A, iv B, iv C, iv D, iv E]) :: (m, Cl 70 [.func (.func 24) #[] #[pb j, pb f, pb n, pb o, pb k, pb m]]) :: (n, Cl 3 [iv cw]) :: (o, Cl 23 [sv aK a6 aL]) :: (a7 ++ (af ++ R)) = hp' ∧ aI.Le aJ ∧ OS 42 (OT.fr (RT.list rI)) aJ.w (sv c ae d) ae a7 ∧ ae.length = q.length ∧ OS 42 (OT.fr (RT.list rI)) aJ.w (sv aK a6 aL) a6 af) ?_ ?_
   have hm := cx
   refine Cs ?_
   obtain ⟨cz, cA, hm⟩ := bS hm
   obtain ⟨cB, cC, hm⟩ := bS hm
   refine Di mixed (.refl _)<|Es 0 rfl (sL 0 rfl one45 rfl rfl)<|Es 1 rfl (sL 1 rfl one23 rfl rfl)<|E0 2 rfl (sM rfl) ?_
   obtain ⟨cD, cE, cG⟩ := iS cA
   obtain ⟨du, dv, dw, dx, dy, cH, cI, cJ, cK, dz, dA⟩ := OS.get (sz := 1) rfl (by decide) a5 cG
   obtain ⟨⟨cM, cN, rfl, cO⟩, rfl⟩ := cH
   refine E0 3 rfl (sI cD rfl rfl cE cK cJ sl23)<|Es 4 rfl (st_load_rd rfl one42 (fun w ho => cI w _ ho (.cons _ (.cons _ (.cons _ (.cons _ (.cons _ (.cons _ (List.sublist_append_left _ _))))))) 0 _ rfl))<|Es 5 rfl (sD (vs := [_, _, _, _, _, _, _]) 2 7 rfl agg27 rfl rfl rfl)<|Eo<|Da [6] (by kernel_rfl) rfl ?_
   refine Rd2 lr rfl rfl (uW _ call28 rfl (fun w ho => cFleetFits _ [] t cz (⟨y, z, A, B, C, D, E⟩ : FleetLimits) u x cM cN ((ao.le (au.trans an)).old ho) (cO.old ho) cB cC) (fun _ _ _ h => h.2.symm)) ?_ ?_
   rintro _ _ ⟨⟨_, rfl, _⟩, rfl⟩
   refine ⟨.inr (.refl _), ?_⟩
   refine Dd (by kernel_rfl)<|Xn ?_
   refine Cc _ rfl (fun a8 => ?_) (fun a8 => ?_)
   rw [if_pos a8] at hm
   refine Cg<|Ts rfl (sL 3 rfl one70 rfl rfl)<|M rfl rfl ?_
   obtain ⟨_, a9, hm⟩ := bS hm
   have a9 := (kS a9).2
   refine Ts rfl (sa rfl rfl a9) ?_
   obtain ⟨⟨cP, ba, cQ⟩, bb, hm⟩ := bS hm
   obtain ⟨cR, bb⟩ := lim_some bb
   have hm := (unc3E hm)
   refine t_pullb 3 rfl<|t_pullb 3 rfl<|t_pullb 5 rfl<|t_pullb 5 rfl<|t_pullb 5 rfl<|t_pullb 5 rfl<|t_front2 [_, _, _, _, _, _] J e R rfl<|t_front2 [_, _, _, _, _, _] e J R rfl<|t_out2 [_, _, _, _, _, _] [] J e R rfl<|Tv #[] #[pb j, pb f, pb n, pb o, pb k, pb m] [iv (a + 1)] rfl rfl call24 rfl (cFleetRoster_1_2 cR _ _ (a + 1) t ar y z A B C D E ak Z j f n o k m u x c d J V W e (ao.le (au.trans an)) a5 (aH.le an) cP ba cQ bb) ?_
   rintro _ dB _ cT ⟨aM, cU, cV, aN, rfl, rfl, cW, bc, cX⟩
   refine t_in2 [_, _, _, _, _, _] [] aM aN R rfl<|Tr 39 rfl (v' := sv c ba d) (by show Value.slice _ _ _ = Value.slice _ _ _; rw [bc])<|t_hresp 1 rfl (o' := Cl 23 [sv c ba d]) (by simp only [sv, bc])<|Tn ?_
   obtain ⟨rfl, rfl, rfl⟩ := some3 hm
   refine Xp 3 rfl<|Xp 3 rfl<|Xp 5 rfl<|Xp 5 rfl<|Xp 5 rfl<|Xp 5 rfl<|X2 [_, _, _, _, _, _] aM aN R rfl<|X2 [_, _, _, _, _, _] aN aM R rfl ?_
   exact xJ ⟨aM, cU, cV, aN, rfl, rfl, cT, cW, (bc.trans bq), cX⟩ (.refl _)
   rw [if_neg (fun hh => Bool.noConfusion (hh.symm.trans a8))] at hm
   refine Ck ?_
   obtain ⟨rfl, rfl, rfl⟩ := some3 hm
   refine Xp 5 rfl<|Xp 5 rfl<|Xp 5 rfl<|Xp 5 rfl<|Xp 5 rfl<|Xp 5 rfl<|X2 [_, _, _, _, _, _] J e R rfl<|X2 [_, _, _, _, _, _] e J R rfl ?_
   exact xJ ⟨J, V, W, e, rfl, rfl, lr, a5, bq, (aH.le an)⟩ (.refl _)
   exact Rn
   rintro aJ _ _ ⟨a7, aK, aL, af, rfl, rfl, br, bs, cY, cZ⟩
   have hm := (unc3E cy)
   refine Cg<|Ts rfl (sL 1 rfl one23 rfl rfl)<|M rfl rfl<|M rfl rfl ?_
   obtain ⟨dC, c0, hm⟩ := bS hm
   obtain ⟨c1, bt, bu⟩ := iS c0
   obtain ⟨dD, dE, dF, dG, dH, c2, dI, c3, c5, dJ, dK⟩ := OS.get (sz := 1) rfl (by decide) bs bu
   obtain ⟨⟨dL, dM, rfl, dN⟩, rfl⟩ := c2
   refine Ts rfl (sI c1 rfl rfl bt c5 c3 sl23)<|Do rfl (uP bt (sz := 1) (a' := X) rfl [_, _, _, _, _, _] (af ++ R) 0 1 [sv av X aw] rfl bs bu rfl rfl rfl siz42 rfl (mc rfl mn) (fun cs hsj hh => by obtain ⟨⟨dO, dP, rfl, dQ⟩, rfl⟩ := hh; exact ⟨by first | decide | exact Nat.le_refl _, (RT.list_mk (aV.le (an.trans br))), rfl⟩)) ?_
   rintro _ _ ⟨bd, rfl, c6⟩
   refine Tr 39 rfl (v' := .slice c (put ae (G : Int) X).length d) (by simp only [put_length])<|t_hresp 1 rfl (o' := Cl 23 [.slice c (put ae (G : Int) X).length d]) (by simp only [put_length])<|Tn<|Xm<|Xn<|Cg<|Ts rfl (sa rfl rfl (by omega))<|M rfl rfl<|Tn<|Xp 5 rfl ?_
   refine Xp 5 rfl<|Xp 5 rfl<|Xp 5 rfl<|Xp 5 rfl<|Xp 5 rfl<|X2 [_, _, _, _, _, _] bd af R rfl<|X2 [_, _, _, _, _, _] af bd R rfl ?_
   obtain rfl := o1 hm
   exact xS ⟨bd, aK, aL, af, rfl, rfl, ((au.trans (an.trans br))), c6, ((put_length _ _ _).trans cY), cZ⟩ (.refl _)
   rintro aj _ _ ⟨F, V, W, e, rfl, rfl, au, aa, aG, aH⟩
   have hm := (unc3E b0)
   refine Cr<|Ts rfl (lF rfl rfl (by omega))<|Te<|Cs<|c_cond_f rfl<|Ce<|Xe<|Xe<|Xo ?_
   obtain ⟨rfl, rfl, rfl⟩ := some3 hm
   refine Xp 3 rfl<|Xp 3 rfl<|Xp 5 rfl<|Xp 5 rfl<|Xp 5 rfl<|Xp 5 rfl<|X2 [_, _, _, _, _, _] F e R rfl<|X2 [_, _, _, _, _, _] e F R rfl ?_
   exact endM au rfl (.refl _) ⟨F, V, W, e, rfl, rfl, aa, aG, aH⟩

set_option maxRecDepth 20000 in
theorem cFleetRoster (b : Base) (R : Hp) (c : (List FleetShift)) (k : Int) (a : FleetLimits) (f : OA) (g : Nat) (q : FZ rFleetShift b.w f g c) (s : Int) (i : (List (List Int))) (hm : mFleetRoster c k a = some (s, i)) :
    CallsG Try.prog 9 [sv f c g, iv k, .agg #[iv a.Change, iv a.Long, iv a.Work, iv a.After, iv a.Break, iv a.Rest, iv a.Row]] b (R) (fun v b' hp' => ∃ (t : OA), ∃ (u : Nat), ∃ (x : Hp), .tuple #[sv t i u, iv s] = v ∧ (x ++ R) = hp' ∧ OS 42 (OT.fr (RT.list rI)) b'.w (sv t i u) i x) := by
 refine fE 35 Try.func9 rfl Try.ntmps9 rfl ?_
 unfold mFleetRoster at hm
 refine Cr<|Do rfl (uB _ rfl rfl) ?_
 rintro _ _ ⟨y, rfl, rfl⟩
 refine Do rfl (uB _ rfl rfl) ?_
 rintro _ _ ⟨z, rfl, rfl⟩
 refine As rfl rfl<|As rfl rfl<|Te<|Cs<|Cr<|Ts rfl (sL 1 rfl one45 rfl rfl) ?_
 obtain ⟨A, V, hm⟩ := bS hm
 refine Do rfl (uW _ call21 rfl (fun w ho => cFleetCheckShifts _ [] c f g (q.old ho) A V) (fun _ _ _ h => h.2.symm)) ?_
 rintro _ _ ⟨⟨_, rfl, _⟩, rfl⟩
 refine As rfl rfl<|Te<|Cr<|M rfl rfl<|Ts rfl (q2 rfl rfl)<|Te ?_
 refine Cc _ rfl (fun l => ?_) (fun l => ?_)
 rw [if_pos (of_decide_eq_true l)] at hm
 refine Cr<|M rfl rfl<|As rfl rfl<|As rfl rfl<|Te<|Ct<|Xr ?_
 obtain ⟨rfl, rfl⟩ := some2 hm
 exact rM (rs := [.tmp 6, .tmp 7]) (vs := [sn, iv A]) ⟨rfl, ⟨rfl, trivial⟩⟩ ⟨none, 0, [], rfl, rfl, OS.nil⟩ (.cons _ (.cons _ (.refl _))) lr
 rw [if_neg (of_decide_eq_false l)] at hm
 refine Ck<|Xn<|Cs<|Cr<|Ts rfl (sD (vs := [_, _, _, _, _, _, _]) 0 7 rfl agg27 rfl rfl rfl) ?_
 obtain ⟨B, W, hm⟩ := bS hm
 refine Do rfl (uW _ call22 rfl (fun w ho => cFleetCheckLimits _ [] a B W) (fun _ _ _ h => h.2.symm)) ?_
 rintro _ _ ⟨⟨_, rfl, _⟩, rfl⟩
 refine As rfl rfl<|Te<|Cr<|M rfl rfl<|Ts rfl (q2 rfl rfl)<|Te ?_
 refine Cc _ rfl (fun m => ?_) (fun m => ?_)
 rw [if_pos (of_decide_eq_true m)] at hm
 refine Cr<|M rfl rfl<|As rfl rfl<|As rfl rfl<|Te<|Ct<|Xr ?_
 obtain ⟨rfl, rfl⟩ := some2 hm
 exact rM (rs := [.tmp 6, .tmp 7]) (vs := [sn, iv B]) ⟨rfl, ⟨rfl, trivial⟩⟩ ⟨none, 0, [], rfl, rfl, OS.nil⟩ (.cons _ (.cons _ (.refl _))) lr
 rw [if_neg (of_decide_eq_false m)] at hm
 refine Ck<|Xn<|Cs<|Cr<|M rfl rfl ?_
 obtain ⟨X, Y, hm⟩ := bS hm
 refine Do rfl (uW _ call23 rfl (fun w ho => cFleetWithin _ [] k 1 4 X Y) (fun _ _ _ h => h.2.symm)) ?_
 rintro _ _ ⟨⟨_, rfl, _⟩, rfl⟩
 refine Ts rfl (sn2 rfl)<|Te ?_
 refine Cc _ rfl (fun n => ?_) (fun n => ?_)
 rw [if_neg (fun hh => Bool.noConfusion (hh.symm.trans (nt n)))] at hm
 refine Cr<|As rfl rfl<|As rfl rfl<|Te<|Ct<|Xr ?_
 obtain ⟨rfl, rfl⟩ := some2 hm
 exact rM (rs := [.tmp 6, .tmp 7]) (vs := [sn, iv 2]) ⟨rfl, ⟨rfl, trivial⟩⟩ ⟨none, 0, [], rfl, rfl, OS.nil⟩ (.cons _ (.cons _ (.refl _))) lr
 rw [if_pos (nf n)] at hm
 refine Ck<|Xn<|Cr<|M rfl rfl ?_
 obtain ⟨C, d, hm⟩ := bS hm
 have d := mkLen_some d
 refine Do rfl (u_mkOS (r := (RT.list rI)) [_, _] R [sn] ([] : List Int) C rfl d.1 rfl rfl sl23 inf42 rfl rfl rfl (by decide) (RT.list_mk FZ.nil) d.2.1 d.2.2) ?_
 rintro _ _ ⟨D, rfl, E⟩
 obtain ⟨F, G, rfl, _⟩ := E.form
 refine Do rfl (uA [sn] zero23 rfl) ?_
 rintro _ _ ⟨H, rfl, rfl⟩
 refine Do rfl (uS 0 rfl rfl siz23 rfl rfl (by simp)) ?_
 rintro _ _ rfl
 refine Te<|Cr<|Do rfl (uA [sn] zero23 rfl) ?_
 rintro _ _ ⟨I, rfl, rfl⟩
 refine Te<|Cr<|Do rfl (uA [iv 0] zero3 rfl) ?_
 rintro _ _ ⟨J, rfl, rfl⟩
 refine Do rfl (uS 0 rfl rfl siz3 rfl rfl (by simp)) ?_
 rintro _ _ rfl
 refine Te<|Cr<|Do rfl (uA [.nilFunc] zero70 rfl) ?_
 rintro _ _ ⟨K, rfl, rfl⟩
 refine Te<|Cr<|Ts rfl (st_func _ _ rfl rfl)<|Do rfl (uS 0 rfl rfl siz70 rfl rfl (by simp)) ?_
 rintro _ _ rfl
 refine Te<|Cr<|Ts rfl (sL 0 rfl one70 rfl rfl) ?_
 obtain ⟨⟨Z, L, O⟩, o, hm⟩ := bS hm
 obtain ⟨aa, o⟩ := lim_some o
 have hm := (unc3E hm)
 refine t_pullb 4 rfl<|t_pullb 3 rfl<|t_pullb 3 rfl<|t_pullb 4 rfl<|t_pullb 5 rfl<|t_out1 [_, _, _, _, _, _] [] D R rfl<|Tv #[] #[pb y, pb H, pb J, pb I, pb z, pb K] [iv 0] rfl rfl call24 rfl (cFleetRoster_1 aa _ _ 0 c (-1) a.Change a.Long a.Work a.After a.Break a.Rest a.Row (List.replicate C (([] : List Int) : (List Int))) [] y H J I z K f g F G D none 0 [] q E OS.nil ⟨fun _ => rfl, fun _ => rfl⟩ Z L O o) ?_
 rintro _ ad _ S ⟨j, T, U, e, rfl, rfl, ae, ab, ac⟩
 refine t_in2 [_, _, _, _, _, _] [] j e R rfl<|t_hresp 1 rfl (o' := Cl 23 [sv F L G]) (by simp only [sv, ab])<|Te<|Cs<|Cr<|Ts rfl (sL 2 rfl one3 rfl rfl)<|Ts rfl (q3 rfl rfl)<|Te ?_
 refine Cc _ rfl (fun p => ?_) (fun p => ?_)
 rw [if_pos (of_decide_eq_true p)] at hm
 refine Cr<|As rfl rfl<|As rfl rfl<|Te<|Ct<|Xr ?_
 obtain ⟨rfl, rfl⟩ := some2 hm
 exact rM (rs := [.tmp 6, .tmp 7]) (vs := [sn, iv 9]) ⟨rfl, ⟨rfl, trivial⟩⟩ ⟨none, 0, [], rfl, rfl, OS.nil⟩ (.cons _ (.cons _ (.cons _ (.cons _ (.cons _ (.cons _ (ss j (ss e (.refl _))))))))) S
 rw [if_neg (of_decide_eq_false p)] at hm
 refine Ck<|Xn<|Cr<|Ts rfl (sL 3 rfl one23 rfl rfl)<|As rfl rfl<|As rfl rfl<|Te<|Ct ?_
 obtain ⟨rfl, rfl⟩ := some2 hm
 refine X2 [_, _, _, _, _, _] j e R rfl ?_
 exact rM (rs := [.tmp 6, .tmp 7]) (vs := [sv T O U, iv 0]) ⟨rfl, ⟨rfl, trivial⟩⟩ ⟨T, U, e, rfl, rfl, ac⟩ (.cons _ (.cons _ (.cons _ (.cons _ (.cons _ (.cons _ (sp e (ss j (.refl _))))))))) S

set_option maxRecDepth 20000 in
theorem cFleetCheckRoster (b : Base) (R : Hp) (c : (List FleetShift)) (a : (List (List Int))) (f : OA) (g : Nat) (i : OA) (j : Nat) (h3 : FZ rFleetShift b.w f g c) (t : FZ (RT.list rI) b.w i j a) (u : Int) (hm : mFleetCheckRoster c a = some u) :
    CallsG Try.prog 44 [sv f c g, sv i a j] b (R) (fun v b' hp' => iv u = v ∧ R = hp') := by
 refine fE 32 Try.func44 rfl Try.ntmps44 rfl ?_
 unfold mFleetCheckRoster at hm
 refine Cr<|As rfl rfl<|Te<|Cs<|Cr<|M rfl rfl<|Ts rfl (sE rfl sl23)<|Ts rfl (q5 rfl rfl)<|Te ?_
 refine Cc _ rfl (fun n => ?_) (fun n => ?_)
 rw [if_pos (of_decide_eq_true n)] at hm
 refine Cr<|As rfl rfl<|Te<|Ct<|Xr ?_
 obtain rfl := o1 hm
 exact rM (rs := [.tmp 4]) (vs := [iv 4]) ⟨rfl, trivial⟩ ⟨rfl, rfl⟩ (.refl _) lr
 rw [if_neg (of_decide_eq_false n)] at hm
 refine Ck<|Xn<|Cs<|Cr<|M rfl rfl<|Ts rfl (sE rfl sl23)<|M rfl rfl<|Te<|Cb ?_
 have hb124 : a.length ≤ 9223372036854775807 := (FZ.bd t)
 obtain ⟨t178, B, k⟩ := bS hm
 refine cF (fun o => fun _ => fun l e' hp' => [(0, sv f c g), (12, sv i a j), (13, iv ((a.length : Int))), (14, iv ((o : Int)))] = e' ∧ R = hp' ∧ b.Le l) B ⟨rfl, rfl, lr⟩ (.refl _) ?_ ?_
 rintro o _ l _ _ oL123 hknL123 ⟨rfl, rfl, d⟩ x C
 unfold mFleetCheckRoster_L123 at x
 have hm := x
 refine Cr<|Ts rfl (lT rfl rfl (by omega))<|Te<|Cs<|c_cond_t rfl<|Ck<|Xn<|Cs<|Cb<|Cr ?_
 obtain ⟨p, D, hm⟩ := bS hm
 obtain ⟨E, F, G⟩ := iS D
 obtain ⟨cs186, H, I, J, K⟩ := FZ.get (sz := 1) rfl (by decide) (t.le d) G
 obtain ⟨L, O, rfl, y⟩ := H
 refine Ts rfl (sI E rfl rfl F K J sl23)<|Ts rfl (sO rfl one42 (I 0 _ rfl))<|As rfl rfl<|Te<|Cr<|M rfl rfl<|Ts rfl (sE rfl sl42)<|M rfl rfl<|Te<|Cb ?_
 have hb195 : p.length ≤ 9223372036854775807 := (FZ.bd y)
 obtain ⟨t213, S, m⟩ := bS hm
 refine cF (fun z => fun _ => fun q e' hp' => [(0, sv f c g), (12, sv i a j), (13, iv ((a.length : Int))), (14, iv ((o : Int))), (18, sv L p O), (19, iv ((p.length : Int))), (20, iv ((z : Int)))] = e' ∧ R = hp' ∧ l.Le q) S ⟨rfl, rfl, lr⟩ (.refl _) ?_ ?_
 rintro z _ q _ _ oL194 hknL194 ⟨rfl, rfl, e⟩ A T
 unfold mFleetCheckRoster_L194 at A
 have hm := A
 refine Cr<|Ts rfl (lT rfl rfl (by omega))<|Te<|Cs<|c_cond_t rfl<|Ck<|Xn<|Cs<|Cb<|Cr ?_
 obtain ⟨U, V, hm⟩ := bS hm
 obtain ⟨W, X, Y⟩ := iS V
 obtain ⟨cs221, Z, aa, ab, ac⟩ := FZ.get (sz := 1) rfl (by decide) (y.le e) Y
 obtain rfl := Z
 refine Ts rfl (sI W rfl rfl X ac ab sl42)<|Ts rfl (sO rfl one3 (aa 0 _ rfl))<|As rfl rfl<|Te<|Cr<|M rfl rfl<|M rfl rfl<|Ts rfl (sE rfl sl45) ?_
 obtain ⟨_, r, hm⟩ := bS hm
 have r := (kS r).2
 refine Ts rfl (sb rfl rfl r) ?_
 obtain ⟨ad, ae, hm⟩ := bS hm
 refine Do rfl (uW _ call23 rfl (fun w ho => cFleetWithin _ [] U 0 ((c.length : Int) - 1) ad ae) (fun _ _ _ h => h.2.symm)) ?_
 rintro _ _ ⟨⟨_, rfl, _⟩, rfl⟩
 refine Ts rfl (sn2 rfl)<|Te ?_
 refine Cc _ rfl (fun s => ?_) (fun s => ?_)
 rw [if_neg (fun hh => Bool.noConfusion (hh.symm.trans (nt s)))] at hm
 refine Cr<|As rfl rfl<|Te<|Ct<|Xb<|Xr<|Xr<|Xb<|Xb<|Xr ?_
 refine Xr<|Xb<|Xr ?_
 have af := T _ (Option.some.inj hm).symm
 rw [af] at m
 have hm := elimR m
 have ag := C _ (Option.some.inj hm).symm
 rw [ag] at k
 have hm := elimR k
 obtain rfl := o1 hm
 exact rM (rs := [.tmp 4]) (vs := [iv 2]) ⟨rfl, trivial⟩ ⟨rfl, rfl⟩ (.refl _) (d.trans e)
 rw [if_pos (nf s)] at hm
 refine Ck<|Xm<|Xn<|Cg<|Ts rfl (sa rfl rfl (by omega))<|M rfl rfl<|Tn ?_
 exact xM hm ⟨rfl, rfl, (e)⟩ (.refl _)
 rintro _ q _ _ ⟨rfl, rfl, e⟩ ah
 rw [ah] at m
 have hm := elimL m
 refine Cr<|Ts rfl (lF rfl rfl (by omega))<|Te<|Cs<|c_cond_f rfl<|Ce<|Xe<|Xe<|Xo<|Xm ?_
 refine Xn<|Cg<|Ts rfl (sa rfl rfl (by omega))<|M rfl rfl<|Tn ?_
 exact xM hm ⟨rfl, rfl, ((d.trans e))⟩ (.refl _)
 rintro _ l _ _ ⟨rfl, rfl, d⟩ ai
 rw [ai] at k
 have hm := elimL k
 refine Cr<|Ts rfl (lF rfl rfl (by omega))<|Te<|Cs<|c_cond_f rfl<|Ce<|Xe<|Xe<|Xo<|Xn ?_
 refine Cr<|As rfl rfl<|Te<|Ct ?_
 obtain rfl := o1 hm
 exact rM (rs := [.tmp 4]) (vs := [iv 0]) ⟨rfl, trivial⟩ ⟨rfl, rfl⟩ (.refl _) d

set_option maxRecDepth 20000 in
theorem cFleetJudgeRoster_1 (b : Base) (R : Hp) (a : Int) (c : Bool) (hm : mFleetJudgeRoster_1 a = some c) :
    CallsG Try.prog 55 [iv a] b (R) (fun v b' hp' => bv c = v ∧ R = hp') := by
 refine fE 5 Try.func55 rfl Try.ntmps55 rfl ?_
 unfold mFleetJudgeRoster_1 at hm
 refine Cr<|As rfl rfl<|Te<|Cr<|M rfl rfl<|Ts rfl (q2 rfl rfl)<|As rfl rfl<|Te<|Ct ?_
 obtain rfl := o1 hm
 exact rM (rs := [.tmp 2]) (vs := [.bool (decide (a ≠ 1))]) ⟨rfl, trivial⟩ ⟨rfl, rfl⟩ (.refl _) lr

end Go.Proofs.Ytnmhabgnfifkdaa
