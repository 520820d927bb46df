/- Contracts: the code computes its model (part 2). -/
import Derived.Test.YtaagdbecijhkmaaDoorTP1
set_option linter.unusedVariables false
set_option linter.unusedSimpArgs false
namespace Go.Proofs.YtaagdbecijhkmaaDoor
open Go.RowKit Go.Fp

open Go.Fp renaming t_mv → M, t_as → As, t_st → Ts, t_do → Do, t_ne → Te, t_nil → Tn, t_no → No, t_yes → Ys, t_bool → Tb, t_callG → Tg, t_resp → Tr, c_sr → Cr, c_seq → Cs, c_region → Cg, c_cond → Cc, c_block → Cb, c_ret → Ct, c_skip → Ck, c_exit → Ce, c_join → Cj, c_pullb → Cp, x_then_normal → Xn, x_then_ret → Xr, x_then_exit → Xe, x_block_ret → Xb, x_block_normal → Xm, x_block_out → Xo, x_pullb → Xp, x_front5 → X5, x_front6 → X6, E_st → Es, E_s0 → E0, E_yes → Ey, E_y0 → Yz, E_no → En, E_in → Ei, E_out → Eo, D_all → Da, D_done → Dd, D_drawI → Di, R_do → Rd2, R_nil → Rn, st_load → sL, st_loadD → sD, st_field → sF, st_len → sE, st_move → sM, st_assign → sA, st_pick_t → pT, st_pick_f → pF, st_index_old → sI, st_load_old → sO, st_loadN_old → sP, st_field_old → sQ, st_add → sa, st_sub → sb, st_lss_t → lT, st_lss_f → lF, st_not → sn2, st_build → sB, u_box → uB, u_alloc → uA, u_storeN → uN, u_callW0 → uW, u_appOS → uQ, fn_enterG → fE, bindS → bS, some1 → o1, idx_some → iS, sub_skip → ss, sub_app → sp, chk_some → kS, notT → nt, notF → nf, mem_c → mc, mem_n → mn, st_eql → q1, st_neq → q2, st_lss → q3, st_leq → q4, st_gtr → q5, st_geq → q6
set_option maxRecDepth 20000 in
theorem cLineCheckSignals (b : Base) (R : Hp) (a : ApiNet) (m : OA) (n : Nat) (p : OA) (q : Nat) (r : OA) (s : Nat) (g : OA) (i : Nat) (t : OA) (x : Nat) (U : FZ RT.str b.w m n a.Stations) (H : FZ rApiSection b.w p q a.Sections) (V : FZ rApiLink b.w r s a.Links) (B : FZ rApiSignal b.w g i a.Signals) (W : FZ rApiGate b.w t x a.Gates) (X : Int) (hm : mLineCheckSignals a = some X) :
    CallsG Tryd.prog 20 [.agg #[sv m a.Stations n, sv p a.Sections q, sv r a.Links s, sv g a.Signals i, sv t a.Gates x]] b (R) (fun v b' hp' => iv X = v ∧ R = hp') := by
 refine fE 66 Tryd.func20 rfl Tryd.ntmps20 rfl ?_
 unfold mLineCheckSignals at hm
 refine Cr<|Do rfl (uB _ rfl rfl) ?_
 rintro _ _ ⟨z, rfl, rfl⟩
 refine As rfl rfl<|Te<|Cs<|Cr<|Ts rfl (sF rfl fld28_3)<|Ts rfl (sL 0 rfl one25 rfl rfl)<|Ts rfl (sE rfl sl25)<|M rfl rfl<|Te<|Cb ?_
 have a0 : a.Signals.length ≤ 9223372036854775807 := (FZ.bd B)
 obtain ⟨a1, ag, k⟩ := bS hm
 refine cF (fun C => fun _ => fun I e' hp' => [(1, pb z), (10, sv g a.Signals i), (11, iv ((a.Signals.length : Int))), (12, iv ((C : Int)))] = e' ∧ (z, Cl 28 [sv m a.Stations n, sv p a.Sections q, sv r a.Links s, sv g a.Signals i, sv t a.Gates x]) :: R = hp' ∧ b.Le I) ag ⟨rfl, rfl, lr⟩ (.refl _) ?_ ?_
 rintro C _ I _ _ a2 a3 ⟨rfl, rfl, c⟩ Y J
 unfold mLineCheckSignals_L238 at Y
 have hm := Y
 refine Cr<|Ts rfl (lT rfl rfl (by omega))<|Te<|Cs<|c_cond_t rfl<|Ck<|Xn<|Cs<|Cb<|Cr ?_
 refine M rfl rfl ?_
 obtain ⟨d, ah, hm⟩ := bS hm
 obtain ⟨ai, aj, ak⟩ := iS ah
 obtain ⟨a4, al, am, Z, an⟩ := FZ.get (sz := 2) rfl (by decide) (B.le c) ak
 obtain ⟨_, _, rfl, rfl, rfl⟩ := al
 refine Ts rfl (sI ai rfl rfl aj an Z sl25)<|Ts rfl (sP (vs := [iv d.Section, iv d.End]) 2 rfl agg45 Z rfl (fun j u hu => am j u hu))<|Do rfl (uA [iv 0, iv 0] zero45 rfl) ?_
 rintro _ _ ⟨aa, rfl, rfl⟩
 refine As rfl rfl<|Do rfl (uN (vs := [_, _]) 0 2 rfl rfl rfl siz45 rfl (mc rfl (mc rfl mn)) rfl (by simp)) ?_
 rintro _ _ rfl
 refine Te<|Cr<|Ts rfl (sF rfl fld45_0)<|Ts rfl (sL 0 rfl one3 rfl rfl)<|Ts rfl (sF rfl fld45_1)<|Ts rfl (sL 0 rfl one3 rfl rfl)<|Ts rfl (sB (v := .agg #[iv d.Section, iv d.End]) [(0, iv d.Section), (1, iv d.End)] rfl (fun _ => by kernel_rfl))<|Do rfl (uA [iv 0, iv 0] zero79 rfl) ?_
 rintro _ _ ⟨a5, rfl, rfl⟩
 refine Do rfl (uN (vs := [_, _]) 0 2 rfl rfl rfl siz79 rfl (mc rfl (mc rfl mn)) rfl (by simp)) ?_
 rintro _ _ rfl
 refine Te<|Cs<|Cr<|Ts rfl (sD (vs := [_, _, _, _, _]) 2 5 rfl agg28 rfl rfl rfl)<|Ts rfl (sD (vs := [_, _]) 0 2 rfl agg79 rfl rfl rfl) ?_
 obtain ⟨ao, aq, hm⟩ := bS hm
 refine Do rfl (uW _ call30 rfl (fun w ho => cLineHas _ [] a (⟨d.Section, d.End⟩ : LineEnd) m n p q r s g i t x ((U.le c).old ho) ((H.le c).old ho) ((V.le c).old ho) ((B.le c).old ho) ((W.le c).old ho) ao aq) (fun _ _ _ h => h.2.symm)) ?_
 rintro _ _ ⟨⟨_, rfl, _⟩, rfl⟩
 refine Ts rfl (sn2 rfl)<|Te ?_
 refine Cc _ rfl (fun K => ?_) (fun K => ?_)
 rw [if_neg (fun hh => Bool.noConfusion (hh.symm.trans (nt K)))] at hm
 refine Cr<|As rfl rfl<|Te<|Ct<|Xr<|Xb<|Xr<|Xr<|Xb<|Xr ?_
 have ar := J _ (Option.some.inj hm).symm
 rw [ar] at k
 have hm := elimR k
 obtain rfl := o1 hm
 exact rM (rs := [.tmp 2]) (vs := [iv 3]) ⟨rfl, trivial⟩ ⟨rfl, rfl⟩ (.cons _ (.cons _ (.cons _ (.refl _)))) c
 rw [if_pos (nf K)] at hm
 refine Ck<|Xn<|Cs<|Cr<|Ts rfl (sD (vs := [_, _, _, _, _]) 2 5 rfl agg28 rfl rfl rfl)<|Ts rfl (sD (vs := [_, _]) 0 2 rfl agg79 rfl rfl rfl) ?_
 obtain ⟨⟨au, av, ab⟩, aw, hm⟩ := bS hm
 have hm := (unc3E hm)
 refine Tg _ rfl call33 rfl (cLineJoined _ _ a (⟨d.Section, d.End⟩ : LineEnd) m n p q r s g i t x (U.le c) (H.le c) (V.le c) (B.le c) (W.le c) au av ab aw) ?_
 rintro _ ax _ A ⟨rfl, rfl⟩
 refine M rfl rfl<|Ts rfl (st_extract rfl rfl)<|Ts rfl (st_extract rfl rfl)<|Do rfl (uA [iv 0, iv 0] zero79 rfl) ?_
 rintro _ _ ⟨a6, rfl, rfl⟩
 refine Do rfl (uN (vs := [_, _]) 0 2 rfl rfl rfl siz79 rfl (mc rfl (mc rfl mn)) rfl (by simp)) ?_
 rintro _ _ rfl
 refine As rfl rfl<|Te ?_
 obtain ⟨ay, az, aA⟩ := bS hm
 refine Cj (fun F e' hp' => [(1, pb z), (3, iv ((C : Int))), (4, pb aa), (10, sv g a.Signals i), (11, iv ((a.Signals.length : Int))), (12, iv ((C : Int))), (43, bv ay)] = e' ∧ (z, Cl 28 [sv m a.Stations n, sv p a.Sections q, sv r a.Links s, sv g a.Signals i, sv t a.Gates x]) :: (aa, Cl 45 [iv d.Section, iv d.End]) :: R = hp' ∧ ax.Le F) ?_ ?_
 have hm := az
 refine Cg<|M rfl rfl ?_
 rcases Bool.eq_false_or_eq_true ab with D | D
 rw [if_pos D] at hm
 refine Tr 32 rfl (v' := .bool true) (by rw [D] <;> rfl)<|Ts rfl (st_not_t rfl)<|M rfl rfl<|Ys 34 rfl rfl rfl<|Ts rfl (sF rfl fld28_1)<|Ys 34 rfl rfl rfl<|Ts rfl (sL 3 rfl one23 rfl rfl)<|Ys 34 rfl rfl rfl<|Ts rfl (sF rfl fld45_0)<|Ys 34 rfl rfl rfl ?_
 refine Ts rfl (sL 2 rfl one3 rfl rfl)<|Ys 34 rfl rfl rfl ?_
 obtain ⟨a7, aB, hm⟩ := bS hm
 obtain ⟨aC, aD, aE⟩ := iS aB
 obtain ⟨a8, aF, aG, ac, aH⟩ := FZ.get (sz := 7) rfl (by decide) (H.le (c.trans A)) aE
 obtain ⟨_, _, rfl, rfl, ⟨_, _, rfl, rfl, ⟨_, _, rfl, rfl, ⟨_, _, rfl, rfl, ⟨_, _, rfl, rfl, ⟨_, _, rfl, rfl, rfl⟩⟩⟩⟩⟩⟩ := aF
 refine Ts rfl (sI aC rfl rfl aD aH ac sl23)<|Ys 34 rfl rfl rfl<|Ts rfl (sQ rfl ac fld39_0)<|Ys 34 rfl rfl rfl<|Ts rfl (sO rfl one3 (aG 0 _ rfl))<|Ys 34 rfl rfl rfl<|Ts rfl (q2 rfl rfl)<|Ts rfl (pF rfl rfl)<|Tn ?_
 obtain rfl := o1 hm
 refine Xp 2 rfl<|Xp 3 rfl ?_
 exact xJ ⟨rfl, rfl, lr⟩ (.cons_cons _ (.cons_cons _ (.cons _ (.cons _ (.refl _)))))
 rw [if_neg (fun hh => Bool.noConfusion (hh.symm.trans D))] at hm
 refine Tr 32 rfl (v' := .bool false) (by rw [D] <;> rfl)<|Ts rfl (st_not_f rfl)<|M rfl rfl<|No 34 rfl rfl rfl rfl rfl<|No 34 rfl rfl rfl rfl rfl<|No 34 rfl rfl rfl rfl rfl<|No 34 rfl rfl rfl rfl rfl<|No 34 rfl rfl rfl rfl rfl<|No 34 rfl rfl rfl rfl rfl<|No 34 rfl rfl rfl rfl rfl ?_
 refine No 34 rfl rfl rfl rfl rfl<|Ts rfl (pT rfl rfl)<|Tn ?_
 obtain rfl := o1 hm
 refine Xp 2 rfl<|Xp 3 rfl ?_
 exact xJ ⟨rfl, rfl, lr⟩ (.cons_cons _ (.cons_cons _ (.cons _ (.cons _ (.refl _)))))
 rintro F _ _ ⟨rfl, rfl, E⟩
 have hm := aA
 refine Cc _ rfl (fun L => ?_) (fun L => ?_)
 rw [if_pos L] at hm
 refine Cr<|As rfl rfl<|Te<|Ct<|Xr<|Xb<|Xr<|Xr<|Xb<|Xr ?_
 have aI := J _ (Option.some.inj hm).symm
 rw [aI] at k
 have hm := elimR k
 obtain rfl := o1 hm
 exact rM (rs := [.tmp 2]) (vs := [iv 1]) ⟨rfl, trivial⟩ ⟨rfl, rfl⟩ (.cons _ (.cons _ (.refl _))) (c.trans (A.trans E))
 rw [if_neg (fun hh => Bool.noConfusion (hh.symm.trans L))] at hm
 refine Ck<|Xn<|Cr<|M rfl rfl<|Ts rfl (q5 rfl rfl)<|Te ?_
 refine Cc _ rfl (fun O => ?_) (fun O => ?_)
 rw [if_pos (of_decide_eq_true O)] at hm
 refine Cr<|Ts rfl (sF rfl fld28_3)<|Ts rfl (sL 0 rfl one25 rfl rfl)<|M rfl rfl ?_
 obtain ⟨_, S, hm⟩ := bS hm
 have S := (kS S).2
 refine Ts rfl (sb rfl rfl S) ?_
 obtain ⟨G, aJ, hm⟩ := bS hm
 obtain ⟨aK, aL, aM⟩ := iS aJ
 obtain ⟨a9, aN, aO, ad, aP⟩ := FZ.get (sz := 2) rfl (by decide) (B.le (c.trans (A.trans E))) aM
 obtain ⟨_, _, rfl, rfl, rfl⟩ := aN
 refine Ts rfl (sI aK rfl rfl aL aP ad sl25)<|Ts rfl (sP (vs := [iv G.Section, iv G.End]) 2 rfl agg45 ad rfl (fun j u hu => aO j u hu))<|Do rfl (uA [iv 0, iv 0] zero45 rfl) ?_
 rintro _ _ ⟨ba, rfl, rfl⟩
 refine Do rfl (uN (vs := [_, _]) 0 2 rfl rfl rfl siz45 rfl (mc rfl (mc rfl mn)) rfl (by simp)) ?_
 rintro _ _ rfl
 refine Te ?_
 obtain ⟨aQ, aR, aS⟩ := bS hm
 refine Cj (fun ae e' hp' => [(1, pb z), (10, sv g a.Signals i), (11, iv ((a.Signals.length : Int))), (12, iv ((C : Int))), (64, bv aQ)] = e' ∧ (z, Cl 28 [sv m a.Stations n, sv p a.Sections q, sv r a.Links s, sv g a.Signals i, sv t a.Gates x]) :: R = hp' ∧ F.Le ae) ?_ ?_
 have hm := aR
 obtain ⟨e, aT, hm⟩ := bS hm
 obtain ⟨f, aU, hm⟩ := bS hm
 obtain ⟨aV, aW, hm⟩ := bS hm
 refine Di mixed (.refl _)<|E0 0 rfl (sF rfl fld45_0)<|Es 1 rfl (sL 0 rfl one3 rfl rfl)<|E0 2 rfl (sF rfl fld45_0)<|Es 3 rfl (sL 2 rfl one3 rfl rfl)<|E0 5 rfl (sF rfl fld45_1)<|Es 6 rfl (sL 0 rfl one3 rfl rfl)<|E0 7 rfl (sF rfl fld45_1)<|Es 8 rfl (sL 2 rfl one3 rfl rfl)<|Eo ?_
 refine Da [4] (by kernel_rfl) rfl ?_
 refine Rd2 lr rfl rfl (uW _ call32 rfl (fun w ho => cCmpCompare _ [] G.Section d.Section e aT) (fun _ _ _ h => h.2.symm)) ?_ ?_
 rintro _ _ ⟨⟨_, rfl, _⟩, rfl⟩
 refine ⟨.inr (.refl _), ?_⟩
 refine Da [9] (by kernel_rfl) rfl ?_
 refine Rd2 lr rfl rfl (uW _ call32 rfl (fun w ho => cCmpCompare _ [] G.End d.End f aU) (fun _ _ _ h => h.2.symm)) ?_ ?_
 rintro _ _ ⟨⟨_, rfl, _⟩, rfl⟩
 refine ⟨.inr (.refl _), ?_⟩
 refine Da [10] (by kernel_rfl) rfl ?_
 refine Rd2 lr rfl rfl (u_bslice (el := 3) [(0, iv e), (1, iv f)] [iv e, iv f] rfl (fun _ => by kernel_rfl)) ?_ ?_
 rintro _ _ ⟨y, rfl, rfl⟩
 refine ⟨.inr (.cons _ (.refl _)), ?_⟩
 refine d_seg 0 [_, _, _] R rfl rfl ?_
 have aX : OS 3 (OT.fr rI) F.w (.slice (some ⟨y, 0, none⟩) 2 2) [e, f] [(y, Cl 3 [iv e, iv f])] := OS.lit [[iv e], [iv f]] rfl ⟨rfl, ⟨rfl, trivial⟩⟩ rfl (by decide)
 refine Da [11] (by kernel_rfl) rfl ?_
 refine Rd2 lr rfl rfl (uW _ call31 rfl (fun w ho => cCmpOr _ [] [e, f] (some ⟨y, 0, none⟩) 2 (OS.now (o := (OT.fr rI)) (l := [e, f]) (hs := [(y, Cl 3 [iv e, iv f])]) aX ho (.cons _ (.cons _ (.cons _ (List.sublist_append_left _ _))))) aV aW) (fun _ _ _ h => h.2.symm)) ?_ ?_
 rintro _ _ ⟨⟨_, rfl, _⟩, rfl⟩
 refine ⟨.inr (.cons_cons _ (.cons_cons _ (.cons_cons _ (ss [(y, Cl 3 [iv e, iv f])] (.refl _))))), ?_⟩
 refine Ei lr (.cons_cons _ (.cons_cons _ (.cons_cons _ (ss [(y, Cl 3 [iv e, iv f])] (.refl _)))))<|E0 12 rfl (q6 rfl rfl)<|Eo<|Dd (by kernel_rfl) ?_
 obtain rfl := o1 hm
 refine Xp 1 rfl ?_
 exact xJ ⟨rfl, rfl, lr⟩ (.cons_cons _ (.cons _ (.cons _ (ss [(y, Cl 3 [iv e, iv f])] (.refl _)))))
 exact Rn
 exact Rn
 exact Rn
 exact Rn
 rintro ae _ _ ⟨rfl, rfl, af⟩
 have hm := aS
 refine Cc _ rfl (fun T => ?_) (fun T => ?_)
 rw [if_pos T] at hm
 refine Cr<|As rfl rfl<|Te<|Ct<|Xb<|Xr<|Xr<|Xb<|Xr ?_
 have aY := J _ (Option.some.inj hm).symm
 rw [aY] at k
 have hm := elimR k
 obtain rfl := o1 hm
 exact rM (rs := [.tmp 2]) (vs := [iv 5]) ⟨rfl, trivial⟩ ⟨rfl, rfl⟩ (.cons _ (.refl _)) (c.trans (A.trans (E.trans af)))
 rw [if_neg (fun hh => Bool.noConfusion (hh.symm.trans T))] at hm
 refine Ck<|Xm<|Xn<|Cg<|Ts rfl (sa rfl rfl (by omega))<|M rfl rfl<|Tn ?_
 exact xM hm ⟨rfl, rfl, ((c.trans (A.trans (E.trans af))))⟩ (.refl _)
 rw [if_neg (of_decide_eq_false O)] at hm
 refine Ck<|Xm<|Xn<|Cg<|Ts rfl (sa rfl rfl (by omega))<|M rfl rfl<|Tn ?_
 exact xM hm ⟨rfl, rfl, ((c.trans (A.trans E)))⟩ (.cons_cons _ (.cons _ (.refl _)))
 rintro _ I _ _ ⟨rfl, rfl, c⟩ aZ
 rw [aZ] at k
 have hm := elimL k
 refine Cr<|Ts rfl (lF rfl rfl (by omega))<|Te<|Cs<|c_cond_f rfl<|Ce<|Xe<|Xe<|Xo<|Xn ?_
 refine Cr<|As rfl rfl<|Te<|Ct ?_
 obtain rfl := o1 hm
 exact rM (rs := [.tmp 2]) (vs := [iv 0]) ⟨rfl, trivial⟩ ⟨rfl, rfl⟩ (.cons _ (.refl _)) c

set_option maxRecDepth 20000 in
theorem cLineCheckGates (b : Base) (R : Hp) (a : ApiNet) (g : OA) (i : Nat) (k : OA) (l : Nat) (m : OA) (n : Nat) (o : OA) (p : Nat) (e : OA) (f : Nat) (h4 : FZ RT.str b.w g i a.Stations) (S : FZ rApiSection b.w k l a.Sections) (h10 : FZ rApiLink b.w m n a.Links) (h13 : FZ rApiSignal b.w o p a.Signals) (z : FZ rApiGate b.w e f a.Gates) (G : Int) (hm : mLineCheckGates a = some G) :
    CallsG Tryd.prog 21 [.agg #[sv g a.Stations i, sv k a.Sections l, sv m a.Links n, sv o a.Signals p, sv e a.Gates f]] b (R) (fun v b' hp' => iv G = v ∧ R = hp') := by
 refine fE 52 Tryd.func21 rfl Tryd.ntmps21 rfl ?_
 unfold mLineCheckGates at hm
 refine Cr<|Do rfl (uB _ rfl rfl) ?_
 rintro _ _ ⟨q, rfl, rfl⟩
 refine As rfl rfl<|Te<|Cs<|Cr<|Ts rfl (sF rfl fld28_4)<|Ts rfl (sL 0 rfl one26 rfl rfl)<|Ts rfl (sE rfl sl26)<|M rfl rfl<|Te<|Cb ?_
 have hb198 : a.Gates.length ≤ 9223372036854775807 := (FZ.bd z)
 obtain ⟨t284, T, c⟩ := bS hm
 refine cF (fun r => fun _ => fun s e' hp' => [(1, pb q), (6, sv e a.Gates f), (7, iv ((a.Gates.length : Int))), (8, iv ((r : Int)))] = e' ∧ (q, Cl 28 [sv g a.Stations i, sv k a.Sections l, sv m a.Links n, sv o a.Signals p, sv e a.Gates f]) :: R = hp' ∧ b.Le s) T ⟨rfl, rfl, lr⟩ (.refl _) ?_ ?_
 rintro r _ s _ _ oL197 hknL197 ⟨rfl, rfl, d⟩ H t
 unfold mLineCheckGates_L197 at H
 have hm := H
 refine Cr<|Ts rfl (lT rfl rfl (by omega))<|Te<|Cs<|c_cond_t rfl<|Ck<|Xn<|Cs<|Cb<|Cr ?_
 refine M rfl rfl ?_
 obtain ⟨x, U, hm⟩ := bS hm
 obtain ⟨V, W, X⟩ := iS U
 obtain ⟨cs292, Y, Z, I, aa⟩ := FZ.get (sz := 2) rfl (by decide) (z.le d) X
 obtain ⟨_, _, rfl, rfl, rfl⟩ := Y
 refine Ts rfl (sI V rfl rfl W aa I sl26)<|Ts rfl (sP (vs := [iv x.Section, iv x.Close]) 2 rfl agg48 I rfl (fun j u hu => Z j u hu))<|Do rfl (uA [iv 0, iv 0] zero48 rfl) ?_
 rintro _ _ ⟨g297, rfl, rfl⟩
 refine As rfl rfl<|Do rfl (uN (vs := [_, _]) 0 2 rfl rfl rfl siz48 rfl (mc rfl (mc rfl mn)) rfl (by simp)) ?_
 rintro _ _ rfl
 refine Te<|Cb<|Cr<|Ts rfl (sF rfl fld48_0)<|Ts rfl (sL 0 rfl one3 rfl rfl)<|Ts rfl (sF rfl fld28_1)<|Ts rfl (sL 1 rfl one23 rfl rfl)<|Ts rfl (sE rfl sl23) ?_
 obtain ⟨_, A, hm⟩ := bS hm
 have A := (kS A).2
 refine Ts rfl (sb rfl rfl A) ?_
 obtain ⟨ab, ac, hm⟩ := bS hm
 refine Do rfl (uW _ call29 rfl (fun w ho => cLineWithin _ [] x.Section 0 ((a.Sections.length : Int) - 1) ab ac) (fun _ _ _ h => h.2.symm)) ?_
 rintro _ _ ⟨⟨_, rfl, _⟩, rfl⟩
 refine Ts rfl (sn2 rfl)<|As rfl rfl<|Te ?_
 refine Cc _ rfl (fun B => ?_) (fun B => ?_)
 rw [if_neg (fun hh => Bool.noConfusion (hh.symm.trans (nt B)))] at hm
 refine Cr<|As rfl rfl<|Te<|Ct<|Xb<|Xb<|Xr<|Xr<|Xb<|Xr ?_
 have ad := t _ (Option.some.inj hm).symm
 rw [ad] at c
 have hm := elimR c
 obtain rfl := o1 hm
 exact rM (rs := [.tmp 2]) (vs := [iv 3]) ⟨rfl, trivial⟩ ⟨rfl, rfl⟩ (.cons _ (.cons _ (.refl _))) d
 rw [if_pos (nf B)] at hm
 refine Cr<|Ts rfl (sF rfl fld28_1)<|Ts rfl (sL 1 rfl one23 rfl rfl)<|Ts rfl (sF rfl fld48_0)<|Ts rfl (sL 0 rfl one3 rfl rfl) ?_
 obtain ⟨x303, ae, hm⟩ := bS hm
 obtain ⟨af, ag, ah⟩ := iS ae
 obtain ⟨cs308, ai, aj, J, ak⟩ := FZ.get (sz := 7) rfl (by decide) (S.le d) ah
 obtain ⟨_, _, rfl, rfl, ⟨_, _, rfl, rfl, ⟨_, _, rfl, rfl, ⟨_, _, rfl, rfl, ⟨_, _, rfl, rfl, ⟨_, _, rfl, rfl, rfl⟩⟩⟩⟩⟩⟩ := ai
 refine Ts rfl (sI af rfl rfl ag ak J sl23)<|Ts rfl (sQ rfl J fld39_0)<|Ts rfl (sO rfl one3 (aj 0 _ rfl))<|Ts rfl (q2 rfl rfl)<|As rfl rfl<|Te ?_
 refine Cc _ rfl (fun C => ?_) (fun C => ?_)
 rw [if_pos (of_decide_eq_true C)] at hm
 refine Cr<|As rfl rfl<|Te<|Ct<|Xb<|Xb<|Xr<|Xr<|Xb<|Xr ?_
 have al := t _ (Option.some.inj hm).symm
 rw [al] at c
 have hm := elimR c
 obtain rfl := o1 hm
 exact rM (rs := [.tmp 2]) (vs := [iv 1]) ⟨rfl, trivial⟩ ⟨rfl, rfl⟩ (.cons _ (.cons _ (.refl _))) d
 rw [if_neg (of_decide_eq_false C)] at hm
 refine Cr<|Ts rfl (sF rfl fld48_1)<|Ts rfl (sL 0 rfl one3 rfl rfl) ?_
 obtain ⟨am, an, hm⟩ := bS hm
 refine Do rfl (uW _ call29 rfl (fun w ho => cLineWithin _ [] x.Close 1 12 am an) (fun _ _ _ h => h.2.symm)) ?_
 rintro _ _ ⟨⟨_, rfl, _⟩, rfl⟩
 refine Ts rfl (sn2 rfl)<|As rfl rfl<|Te ?_
 refine Cc _ rfl (fun D => ?_) (fun D => ?_)
 rw [if_neg (fun hh => Bool.noConfusion (hh.symm.trans (nt D)))] at hm
 refine Cr<|As rfl rfl<|Te<|Ct<|Xb<|Xb<|Xr<|Xr<|Xb<|Xr ?_
 have ao := t _ (Option.some.inj hm).symm
 rw [ao] at c
 have hm := elimR c
 obtain rfl := o1 hm
 exact rM (rs := [.tmp 2]) (vs := [iv 2]) ⟨rfl, trivial⟩ ⟨rfl, rfl⟩ (.cons _ (.cons _ (.refl _))) d
 rw [if_pos (nf D)] at hm
 obtain ⟨aq, ar, au⟩ := bS hm
 refine Cj (fun K e' hp' => [(1, pb q), (6, sv e a.Gates f), (7, iv ((a.Gates.length : Int))), (8, iv ((r : Int))), (36, bv aq)] = e' ∧ (q, Cl 28 [sv g a.Stations i, sv k a.Sections l, sv m a.Links n, sv o a.Signals p, sv e a.Gates f]) :: R = hp' ∧ s.Le K) ?_ ?_
 have hm := ar
 by_cases y : 0 < (r : Int)
 rw [if_pos y] at hm
 obtain ⟨_, E, hm⟩ := bS hm
 obtain ⟨x361, av, hm⟩ := bS hm
 refine Di mixed (.refl _)<|E0 0 rfl (sM rfl)<|E0 1 rfl (st_gtr_t rfl rfl y)<|E0 2 rfl (sM rfl)<|Yz 3 39 rfl (sF rfl fld48_0)<|Ey 4 39 rfl (sL 0 rfl one3 rfl rfl)<|Yz 5 39 rfl (sF rfl fld28_4)<|Ey 6 39 rfl (sL 1 rfl one26 rfl rfl)<|Yz 7 39 rfl (sM rfl) ?_
 have E := (kS E).2
 refine Yz 8 39 rfl (sb rfl rfl E) ?_
 obtain ⟨aw, ax, ay⟩ := iS av
 obtain ⟨cs366, az, aA, L, aB⟩ := FZ.get (sz := 2) rfl (by decide) (z.le d) ay
 obtain ⟨_, _, rfl, rfl, rfl⟩ := az
 refine Yz 9 39 rfl (sI aw rfl rfl ax aB L sl26)<|Yz 10 39 rfl (sQ rfl L fld48_0)<|Ey 11 39 rfl (sO rfl one3 (aA 0 _ rfl))<|Yz 12 39 rfl (q4 rfl rfl)<|E0 13 rfl (pT rfl rfl)<|E0 14 rfl (sA rfl)<|Eo<|Dd (by kernel_rfl) ?_
 obtain rfl := o1 hm
 refine Xp 1 rfl ?_
 exact xJ ⟨rfl, rfl, lr⟩ (.cons_cons _ (.cons _ (.refl _)))
 rw [if_neg y] at hm
 refine Di mixed (.refl _)<|E0 0 rfl (sM rfl)<|E0 1 rfl (st_gtr_f rfl rfl y)<|E0 2 rfl (sM rfl)<|En 3 39 rfl rfl rfl<|En 4 39 rfl rfl rfl<|En 5 39 rfl rfl rfl<|En 6 39 rfl rfl rfl<|En 7 39 rfl rfl rfl<|En 8 39 rfl rfl rfl ?_
 refine En 9 39 rfl rfl rfl<|En 10 39 rfl rfl rfl<|En 11 39 rfl rfl rfl<|En 12 39 rfl rfl rfl<|E0 13 rfl (pF rfl rfl)<|E0 14 rfl (sA rfl)<|Eo<|Dd (by kernel_rfl) ?_
 obtain rfl := o1 hm
 refine Xp 1 rfl ?_
 exact xJ ⟨rfl, rfl, lr⟩ (.cons_cons _ (.cons _ (.refl _)))
 rintro K _ _ ⟨rfl, rfl, O⟩
 have hm := au
 refine Cc _ rfl (fun F => ?_) (fun F => ?_)
 rw [if_pos F] at hm
 refine Cr<|As rfl rfl<|Te<|Ct<|Xb<|Xb<|Xr<|Xr<|Xb<|Xr ?_
 have aC := t _ (Option.some.inj hm).symm
 rw [aC] at c
 have hm := elimR c
 obtain rfl := o1 hm
 exact rM (rs := [.tmp 2]) (vs := [iv 5]) ⟨rfl, trivial⟩ ⟨rfl, rfl⟩ (.cons _ (.refl _)) (d.trans O)
 rw [if_neg (fun hh => Bool.noConfusion (hh.symm.trans F))] at hm
 refine Ck<|Xm<|Xm<|Xn<|Cg<|Ts rfl (sa rfl rfl (by omega))<|M rfl rfl<|Tn ?_
 exact xM hm ⟨rfl, rfl, ((d.trans O))⟩ (.refl _)
 rintro _ s _ _ ⟨rfl, rfl, d⟩ aD
 rw [aD] at c
 have hm := elimL c
 refine Cr<|Ts rfl (lF rfl rfl (by omega))<|Te<|Cs<|c_cond_f rfl<|Ce<|Xe<|Xe<|Xo<|Xn ?_
 refine Cr<|As rfl rfl<|Te<|Ct ?_
 obtain rfl := o1 hm
 exact rM (rs := [.tmp 2]) (vs := [iv 0]) ⟨rfl, trivial⟩ ⟨rfl, rfl⟩ (.cons _ (.refl _)) d

set_option maxRecDepth 20000 in
theorem cLineCheck (b : Base) (R : Hp) (a : ApiNet) (i : OA) (g : Nat) (k : OA) (m : Nat) (n : OA) (o : Nat) (p : OA) (q : Nat) (r : OA) (s : Nat) (z : FZ RT.str b.w i g a.Stations) (B : FZ rApiSection b.w k m a.Sections) (J : FZ rApiLink b.w n o a.Links) (K : FZ rApiSignal b.w p q a.Signals) (L : FZ rApiGate b.w r s a.Gates) (ah : Int) (hm : mLineCheck a = some ah) :
    CallsG Tryd.prog 6 [.agg #[sv i a.Stations g, sv k a.Sections m, sv n a.Links o, sv p a.Signals q, sv r a.Gates s]] b (R) (fun v b' hp' => iv ah = v ∧ R = hp') := by
 refine fE 92 Tryd.func6 rfl Tryd.ntmps6 rfl ?_
 unfold mLineCheck at hm
 refine Cr<|Do rfl (uB _ rfl rfl) ?_
 rintro _ _ ⟨t, rfl, rfl⟩
 refine As rfl rfl<|Te<|Cs<|Cb<|Cr<|Ts rfl (sF rfl fld28_1)<|Ts rfl (sL 0 rfl one23 rfl rfl)<|Ts rfl (sE rfl sl23)<|Ts rfl (q1 rfl rfl)<|As rfl rfl ?_
 refine Te ?_
 refine Cc _ rfl (fun O => ?_) (fun O => ?_)
 rw [if_pos (of_decide_eq_true O)] at hm
 refine Cr<|As rfl rfl<|Te<|Ct<|Xb<|Xr ?_
 obtain rfl := o1 hm
 exact rM (rs := [.tmp 2]) (vs := [iv 1]) ⟨rfl, trivial⟩ ⟨rfl, rfl⟩ (.cons _ (.refl _)) lr
 rw [if_neg (of_decide_eq_false O)] at hm
 obtain ⟨aB, aC, aD⟩ := bS hm
 refine Cj (fun S e' hp' => [(1, pb t), (16, bv aB)] = e' ∧ (t, Cl 28 [sv i a.Stations g, sv k a.Sections m, sv n a.Links o, sv p a.Signals q, sv r a.Gates s]) :: R = hp' ∧ b.Le S) ?_ ?_
 have hm := aC
 refine Cg<|Ts rfl (sF rfl fld28_0)<|Ts rfl (sL 0 rfl one22 rfl rfl)<|Ts rfl (sE rfl sl22) ?_
 refine Tb rfl (q5 rfl rfl) (fun T => ?_) (fun T => ?_)
 rw [if_pos T] at hm
 refine M rfl rfl<|No 21 rfl rfl rfl rfl rfl<|No 21 rfl rfl rfl rfl rfl<|No 21 rfl rfl rfl rfl rfl<|No 21 rfl rfl rfl rfl rfl<|Ts rfl (pT rfl rfl)<|M rfl rfl<|No 27 rfl rfl rfl rfl rfl<|No 27 rfl rfl rfl rfl rfl<|No 27 rfl rfl rfl rfl rfl ?_
 refine No 27 rfl rfl rfl rfl rfl<|Ts rfl (pT rfl rfl)<|M rfl rfl<|No 33 rfl rfl rfl rfl rfl<|No 33 rfl rfl rfl rfl rfl<|No 33 rfl rfl rfl rfl rfl<|No 33 rfl rfl rfl rfl rfl<|Ts rfl (pT rfl rfl)<|M rfl rfl<|No 39 rfl rfl rfl rfl rfl ?_
 refine No 39 rfl rfl rfl rfl rfl<|No 39 rfl rfl rfl rfl rfl<|No 39 rfl rfl rfl rfl rfl<|Ts rfl (pT rfl rfl)<|As rfl rfl<|Tn ?_
 obtain rfl := o1 hm
 exact xJ ⟨rfl, rfl, lr⟩ (.refl _)
 rw [if_neg T] at hm
 refine M rfl rfl<|Ys 21 rfl rfl rfl<|Ts rfl (sF rfl fld28_1)<|Ys 21 rfl rfl rfl<|Ts rfl (sL 0 rfl one23 rfl rfl)<|Ys 21 rfl rfl rfl<|Ts rfl (sE rfl sl23)<|Ys 21 rfl rfl rfl ?_
 refine Tb rfl (q5 rfl rfl) (fun U => ?_) (fun U => ?_)
 rw [if_pos U] at hm
 refine Ts rfl (pF rfl rfl)<|M rfl rfl<|No 27 rfl rfl rfl rfl rfl<|No 27 rfl rfl rfl rfl rfl<|No 27 rfl rfl rfl rfl rfl<|No 27 rfl rfl rfl rfl rfl<|Ts rfl (pT rfl rfl)<|M rfl rfl<|No 33 rfl rfl rfl rfl rfl<|No 33 rfl rfl rfl rfl rfl ?_
 refine No 33 rfl rfl rfl rfl rfl<|No 33 rfl rfl rfl rfl rfl<|Ts rfl (pT rfl rfl)<|M rfl rfl<|No 39 rfl rfl rfl rfl rfl<|No 39 rfl rfl rfl rfl rfl<|No 39 rfl rfl rfl rfl rfl<|No 39 rfl rfl rfl rfl rfl<|Ts rfl (pT rfl rfl)<|As rfl rfl ?_
 refine Tn ?_
 obtain rfl := o1 hm
 exact xJ ⟨rfl, rfl, lr⟩ (.refl _)
 rw [if_neg U] at hm
 refine Ts rfl (pF rfl rfl)<|M rfl rfl<|Ys 27 rfl rfl rfl<|Ts rfl (sF rfl fld28_2)<|Ys 27 rfl rfl rfl<|Ts rfl (sL 0 rfl one24 rfl rfl)<|Ys 27 rfl rfl rfl<|Ts rfl (sE rfl sl24)<|Ys 27 rfl rfl rfl ?_
 refine Tb rfl (q5 rfl rfl) (fun V => ?_) (fun V => ?_)
 rw [if_pos V] at hm
 refine Ts rfl (pF rfl rfl)<|M rfl rfl<|No 33 rfl rfl rfl rfl rfl<|No 33 rfl rfl rfl rfl rfl<|No 33 rfl rfl rfl rfl rfl<|No 33 rfl rfl rfl rfl rfl<|Ts rfl (pT rfl rfl)<|M rfl rfl<|No 39 rfl rfl rfl rfl rfl<|No 39 rfl rfl rfl rfl rfl ?_
 refine No 39 rfl rfl rfl rfl rfl<|No 39 rfl rfl rfl rfl rfl<|Ts rfl (pT rfl rfl)<|As rfl rfl<|Tn ?_
 obtain rfl := o1 hm
 exact xJ ⟨rfl, rfl, lr⟩ (.refl _)
 rw [if_neg V] at hm
 refine Ts rfl (pF rfl rfl)<|M rfl rfl<|Ys 33 rfl rfl rfl<|Ts rfl (sF rfl fld28_3)<|Ys 33 rfl rfl rfl<|Ts rfl (sL 0 rfl one25 rfl rfl)<|Ys 33 rfl rfl rfl<|Ts rfl (sE rfl sl25)<|Ys 33 rfl rfl rfl ?_
 refine Tb rfl (q5 rfl rfl) (fun W => ?_) (fun W => ?_)
 rw [if_pos W] at hm
 refine Ts rfl (pF rfl rfl)<|M rfl rfl<|No 39 rfl rfl rfl rfl rfl<|No 39 rfl rfl rfl rfl rfl<|No 39 rfl rfl rfl rfl rfl<|No 39 rfl rfl rfl rfl rfl<|Ts rfl (pT rfl rfl)<|As rfl rfl<|Tn ?_
 obtain rfl := o1 hm
 exact xJ ⟨rfl, rfl, lr⟩ (.refl _)
 rw [if_neg W] at hm
 refine Ts rfl (pF rfl rfl)<|M rfl rfl<|Ys 39 rfl rfl rfl<|Ts rfl (sF rfl fld28_4)<|Ys 39 rfl rfl rfl<|Ts rfl (sL 0 rfl one26 rfl rfl)<|Ys 39 rfl rfl rfl<|Ts rfl (sE rfl sl26)<|Ys 39 rfl rfl rfl<|Ts rfl (q5 rfl rfl) ?_
 refine Ts rfl (pF rfl rfl)<|As rfl rfl<|Tn ?_
 obtain rfl := o1 hm
 exact xJ ⟨rfl, rfl, lr⟩ (.refl _)
 rintro S _ _ ⟨rfl, rfl, c⟩
 have hm := aD
 refine Cc _ rfl (fun X => ?_) (fun X => ?_)
 rw [if_pos X] at hm
 refine Cr<|As rfl rfl<|Te<|Ct<|Xb<|Xr ?_
 obtain rfl := o1 hm
 exact rM (rs := [.tmp 2]) (vs := [iv 4]) ⟨rfl, trivial⟩ ⟨rfl, rfl⟩ (.cons _ (.refl _)) c
 rw [if_neg (fun hh => Bool.noConfusion (hh.symm.trans X))] at hm
 refine Ck<|Xm<|Xn<|Cs<|Cr<|Ts rfl (sF rfl fld28_0)<|Ts rfl (sL 0 rfl one22 rfl rfl)<|Ts rfl (sE rfl sl22)<|M rfl rfl<|Te ?_
 refine Cb ?_
 have bj : a.Stations.length ≤ 9223372036854775807 := (FZ.bd (z.le c))
 obtain ⟨bk, aE, A⟩ := bS hm
 refine cF (fun ai => fun _ => fun D e' hp' => [(1, pb t), (46, sv i a.Stations g), (47, iv ((a.Stations.length : Int))), (48, iv ((ai : Int)))] = e' ∧ (t, Cl 28 [sv i a.Stations g, sv k a.Sections m, sv n a.Links o, sv p a.Signals q, sv r a.Gates s]) :: R = hp' ∧ S.Le D) aE ⟨rfl, rfl, lr⟩ (.refl _) ?_ ?_
 rintro ai _ D _ _ bl bm ⟨rfl, rfl, d⟩ aj ak
 unfold mLineCheck_L194 at aj
 have hm := aj
 refine Cr<|Ts rfl (lT rfl rfl (by omega))<|Te<|Cs<|c_cond_t rfl<|Ck<|Xn<|Cs<|Cb<|Cr ?_
 refine M rfl rfl ?_
 obtain ⟨al, aF, hm⟩ := bS hm
 obtain ⟨aG, aH, aI⟩ := iS aF
 obtain ⟨bn, aJ, aK, aL, aM⟩ := FZ.get (sz := 1) rfl (by decide) (z.le (c.trans d)) aI
 obtain rfl := aJ
 refine Ts rfl (sI aG rfl rfl aH aM aL sl22)<|Ts rfl (sO rfl one9 (aK 0 _ rfl))<|As rfl rfl<|As rfl rfl<|Te<|Cb<|Cr<|M rfl rfl ?_
 obtain ⟨aN, aO, hm⟩ := bS hm
 refine Do rfl (uW _ call16 rfl (fun w ho => cLineName _ [] al aN aO) (fun _ _ _ h => h.2.symm)) ?_
 rintro _ _ ⟨⟨_, rfl, _⟩, rfl⟩
 refine Ts rfl (sn2 rfl)<|As rfl rfl<|Te ?_
 refine Cc _ rfl (fun Y => ?_) (fun Y => ?_)
 rw [if_neg (fun hh => Bool.noConfusion (hh.symm.trans (nt Y)))] at hm
 refine Cr<|As rfl rfl<|Te<|Ct<|Xb<|Xb<|Xr<|Xr<|Xb<|Xr ?_
 have aP := ak _ (Option.some.inj hm).symm
 rw [aP] at A
 have hm := elimR A
 obtain rfl := o1 hm
 exact rM (rs := [.tmp 2]) (vs := [iv 1]) ⟨rfl, trivial⟩ ⟨rfl, rfl⟩ (.cons _ (.refl _)) (c.trans d)
 rw [if_pos (nf Y)] at hm
 refine Cr<|Ts rfl (sF rfl fld28_0)<|Ts rfl (sL 0 rfl one22 rfl rfl)<|M rfl rfl ?_
 obtain ⟨aQ, aR, hm⟩ := bS hm
 obtain ⟨Z, aS, bo, aT, am, an, ao⟩ := cutS_some aR
 have aq := FZ.sub (sz := 1) rfl (z.le (c.trans d)) am an
 have aU := (z.le (c.trans d)).1.1
 rw [← ao] at aq
 refine Ts rfl (ao ▸ st_part (l := a.Stations) Z aS rfl (.inl ⟨rfl, by omega⟩) (.inr ⟨_, _, _, rfl, rfl, aT⟩) am an aU sl22)<|M rfl rfl ?_
 obtain ⟨aV, aW, hm⟩ := bS hm
 refine Do rfl (uW _ call17 rfl (fun w ho => cSlicesContains _ [] aQ al (subA i g Z 1) (g - Z) (aq.old ho) aV aW) (fun _ _ _ h => h.2.symm)) ?_
 rintro _ _ ⟨⟨_, rfl, _⟩, rfl⟩
 refine As rfl rfl<|Te ?_
 refine Cc _ rfl (fun aa => ?_) (fun aa => ?_)
 rw [if_pos aa] at hm
 refine Cr<|As rfl rfl<|Te<|Ct<|Xb<|Xb<|Xr<|Xr<|Xb<|Xr ?_
 have aX := ak _ (Option.some.inj hm).symm
 rw [aX] at A
 have hm := elimR A
 obtain rfl := o1 hm
 exact rM (rs := [.tmp 2]) (vs := [iv 6]) ⟨rfl, trivial⟩ ⟨rfl, rfl⟩ (.cons _ (.refl _)) (c.trans d)
 rw [if_neg (fun hh => Bool.noConfusion (hh.symm.trans aa))] at hm
 refine Ck<|Xm<|Xm<|Xn<|Cg<|Ts rfl (sa rfl rfl (by omega))<|M rfl rfl<|Tn ?_
 exact xM hm ⟨rfl, rfl, (d)⟩ (.refl _)
 rintro _ D _ _ ⟨rfl, rfl, d⟩ aY
 rw [aY] at A
 have hm := elimL A
 refine Cr<|Ts rfl (lF rfl rfl (by omega))<|Te<|Cs<|c_cond_f rfl<|Ce<|Xe<|Xe<|Xo<|Xn ?_
 refine Cs<|Cr<|Ts rfl (sF rfl fld28_1)<|Ts rfl (sL 0 rfl one23 rfl rfl)<|Ts rfl (sE rfl sl23)<|M rfl rfl<|Te<|Cb ?_
 have bp : a.Sections.length ≤ 9223372036854775807 := (FZ.bd (B.le (c.trans d)))
 obtain ⟨bq, aZ, E⟩ := bS hm
 refine cF (fun ar => fun _ => fun F e' hp' => [(1, pb t), (66, sv k a.Sections m), (67, iv ((a.Sections.length : Int))), (68, iv ((ar : Int)))] = e' ∧ (t, Cl 28 [sv i a.Stations g, sv k a.Sections m, sv n a.Links o, sv p a.Signals q, sv r a.Gates s]) :: R = hp' ∧ D.Le F) aZ ⟨rfl, rfl, lr⟩ (.refl _) ?_ ?_
 rintro ar _ F _ _ br bs ⟨rfl, rfl, e⟩ au a0
 unfold mLineCheck_L267 at au
 have hm := au
 refine Cr<|Ts rfl (lT rfl rfl (by omega))<|Te<|Cs<|c_cond_t rfl<|Ck<|Xn<|Cs<|Cb<|Cr ?_
 obtain ⟨x, a1, hm⟩ := bS hm
 obtain ⟨a2, a3, a4⟩ := iS a1
 obtain ⟨bt, a5, a6, av, a7⟩ := FZ.get (sz := 7) rfl (by decide) (B.le (c.trans (d.trans e))) a4
 obtain ⟨_, _, rfl, rfl, ⟨_, _, rfl, rfl, ⟨_, _, rfl, rfl, ⟨_, _, rfl, rfl, ⟨_, _, rfl, rfl, ⟨_, _, rfl, rfl, rfl⟩⟩⟩⟩⟩⟩ := a5
 refine Ts rfl (sI a2 rfl rfl a3 a7 av sl23)<|Ts rfl (sP (vs := [iv x.Kind, iv x.Length, iv x.Grade, iv x.Speed, iv x.Slow, iv x.Station, bv x.Axles]) 7 rfl agg39 av rfl (fun j u hu => a6 j u hu))<|Do rfl (uA [iv 0, iv 0, iv 0, iv 0, iv 0, iv 0, .bool false] zero39 rfl) ?_
 rintro _ _ ⟨bu, rfl, rfl⟩
 refine Do rfl (uN (vs := [_, _, _, _, _, _, _]) 0 7 rfl rfl rfl siz39 rfl (mc rfl (mc rfl (mc rfl (mc rfl (mc rfl (mc rfl (mc rfl mn))))))) rfl (by simp)) ?_
 rintro _ _ rfl
 refine Te<|Cr<|Ts rfl (sD (vs := [_, _, _, _, _, _, _]) 0 7 rfl agg39 rfl rfl rfl)<|Ts rfl (sF rfl fld28_0)<|Ts rfl (sL 1 rfl one22 rfl rfl)<|Ts rfl (sE rfl sl22) ?_
 obtain ⟨aw, a8, hm⟩ := bS hm
 refine Do rfl (uW _ call18 rfl (fun w ho => cLineCheckSection _ [] x (a.Stations.length : Int) aw a8) (fun _ _ _ h => h.2.symm)) ?_
 rintro _ _ ⟨⟨_, rfl, _⟩, rfl⟩
 refine As rfl rfl<|Te<|Cr<|M rfl rfl<|Ts rfl (q2 rfl rfl)<|Te ?_
 refine Cc _ rfl (fun ab => ?_) (fun ab => ?_)
 rw [if_pos (of_decide_eq_true ab)] at hm
 refine Cr<|M rfl rfl<|As rfl rfl<|Te<|Ct<|Xb<|Xr<|Xr<|Xb<|Xr ?_
 have a9 := a0 _ (Option.some.inj hm).symm
 rw [a9] at E
 have hm := elimR E
 obtain rfl := o1 hm
 exact rM (rs := [.tmp 2]) (vs := [iv aw]) ⟨rfl, trivial⟩ ⟨rfl, rfl⟩ (.cons _ (.cons _ (.refl _))) (c.trans (d.trans e))
 rw [if_neg (of_decide_eq_false ab)] at hm
 refine Ck<|Xm<|Xn<|Cg<|Ts rfl (sa rfl rfl (by omega))<|M rfl rfl<|Tn<|Xp 1 rfl ?_
 exact xM hm ⟨rfl, rfl, (e)⟩ (.cons_cons _ (.cons _ (.refl _)))
 rintro _ F _ _ ⟨rfl, rfl, e⟩ ba
 rw [ba] at E
 have hm := elimL E
 refine Cr<|Ts rfl (lF rfl rfl (by omega))<|Te<|Cs<|c_cond_f rfl<|Ce<|Xe<|Xe<|Xo<|Xn ?_
 refine Cs<|Cr<|Ts rfl (sB (v := .agg #[.func (.func 19) #[] #[], .func (.func 20) #[] #[], .func (.func 21) #[] #[]]) [(0, .func (.func 19) #[] #[]), (1, .func (.func 20) #[] #[]), (2, .func (.func 21) #[] #[])] rfl (fun _ => by kernel_rfl))<|M rfl rfl<|Te<|Cb ?_
 obtain ⟨bw, bb, y⟩ := bS hm
 refine cF (fun C => fun _ => fun ac e' hp' => [(1, pb t), (81, .agg #[.func (.func 19) #[] #[], .func (.func 20) #[] #[], .func (.func 21) #[] #[]]), (82, iv ((C : Int)))] = e' ∧ (t, Cl 28 [sv i a.Stations g, sv k a.Sections m, sv n a.Links o, sv p a.Signals q, sv r a.Gates s]) :: R = hp' ∧ F.Le ac) bb ⟨rfl, rfl, lr⟩ (.refl _) ?_ ?_
 rintro C _ ac _ _ bx bz ⟨rfl, rfl, f⟩ ax ad
 unfold mLineCheck_L305 at ax
 have hm := ax
 refine Cr<|Ts rfl (lT rfl rfl (by omega))<|Te<|Cs<|c_cond_t rfl<|Ck<|Xn<|Cs<|Cb<|Cr ?_
 rcases Decidable.em ((C : Int) = (0 : Int)) with G | G
 rw [if_pos G] at hm
 refine Ts rfl (st_aidx1 (cs := [.func (.func 19) #[] #[], .func (.func 20) #[] #[], .func (.func 21) #[] #[]]) 0 rfl rfl G (by decide) rfl arr63 one33)<|As rfl rfl<|Te<|Cr<|M rfl rfl<|Ts rfl (sD (vs := [_, _, _, _, _]) 0 5 rfl agg28 rfl rfl rfl) ?_
 obtain ⟨ay, bc, hm⟩ := bS hm
 refine Do rfl (u_callvW0 #[] #[] [.agg #[sv i a.Stations g, sv k a.Sections m, sv n a.Links o, sv p a.Signals q, sv r a.Gates s]] rfl call19 rfl (fun w ho => cLineCheckLinks _ [] a i g k m n o p q r s ((z.le (c.trans (d.trans (e.trans f)))).old ho) ((B.le (c.trans (d.trans (e.trans f)))).old ho) ((J.le (c.trans (d.trans (e.trans f)))).old ho) ((K.le (c.trans (d.trans (e.trans f)))).old ho) ((L.le (c.trans (d.trans (e.trans f)))).old ho) ay bc) (fun _ _ _ h => h.2.symm)) ?_
 rintro _ _ ⟨⟨_, rfl, _⟩, rfl⟩
 refine As rfl rfl<|Te<|Cr<|M rfl rfl<|Ts rfl (q2 rfl rfl)<|Te ?_
 refine Cc _ rfl (fun ae => ?_) (fun ae => ?_)
 rw [if_pos (of_decide_eq_true ae)] at hm
 refine Cr<|M rfl rfl<|As rfl rfl<|Te<|Ct<|Xb<|Xr<|Xr<|Xb<|Xr ?_
 have bd := ad _ (Option.some.inj hm).symm
 rw [bd] at y
 have hm := elimR y
 obtain rfl := o1 hm
 exact rM (rs := [.tmp 2]) (vs := [iv ay]) ⟨rfl, trivial⟩ ⟨rfl, rfl⟩ (.cons _ (.refl _)) (c.trans (d.trans (e.trans f)))
 rw [if_neg (of_decide_eq_false ae)] at hm
 refine Ck<|Xm<|Xn<|Cg<|Ts rfl (sa rfl rfl (by omega))<|M rfl rfl<|Tn ?_
 exact xM hm ⟨rfl, rfl, (f)⟩ (.refl _)
 rw [if_neg G] at hm
 rcases Decidable.em ((C : Int) = (1 : Int)) with H | H
 rw [if_pos H] at hm
 refine Ts rfl (st_aidx1 (cs := [.func (.func 19) #[] #[], .func (.func 20) #[] #[], .func (.func 21) #[] #[]]) 1 rfl rfl H (by decide) rfl arr63 one33)<|As rfl rfl<|Te<|Cr<|M rfl rfl<|Ts rfl (sD (vs := [_, _, _, _, _]) 0 5 rfl agg28 rfl rfl rfl) ?_
 obtain ⟨az, be, hm⟩ := bS hm
 refine Do rfl (u_callvW0 #[] #[] [.agg #[sv i a.Stations g, sv k a.Sections m, sv n a.Links o, sv p a.Signals q, sv r a.Gates s]] rfl call20 rfl (fun w ho => cLineCheckSignals _ [] a i g k m n o p q r s ((z.le (c.trans (d.trans (e.trans f)))).old ho) ((B.le (c.trans (d.trans (e.trans f)))).old ho) ((J.le (c.trans (d.trans (e.trans f)))).old ho) ((K.le (c.trans (d.trans (e.trans f)))).old ho) ((L.le (c.trans (d.trans (e.trans f)))).old ho) az be) (fun _ _ _ h => h.2.symm)) ?_
 rintro _ _ ⟨⟨_, rfl, _⟩, rfl⟩
 refine As rfl rfl<|Te<|Cr<|M rfl rfl<|Ts rfl (q2 rfl rfl)<|Te ?_
 refine Cc _ rfl (fun af => ?_) (fun af => ?_)
 rw [if_pos (of_decide_eq_true af)] at hm
 refine Cr<|M rfl rfl<|As rfl rfl<|Te<|Ct<|Xb<|Xr<|Xr<|Xb<|Xr ?_
 have bf := ad _ (Option.some.inj hm).symm
 rw [bf] at y
 have hm := elimR y
 obtain rfl := o1 hm
 exact rM (rs := [.tmp 2]) (vs := [iv az]) ⟨rfl, trivial⟩ ⟨rfl, rfl⟩ (.cons _ (.refl _)) (c.trans (d.trans (e.trans f)))
 rw [if_neg (of_decide_eq_false af)] at hm
 refine Ck<|Xm<|Xn<|Cg<|Ts rfl (sa rfl rfl (by omega))<|M rfl rfl<|Tn ?_
 exact xM hm ⟨rfl, rfl, (f)⟩ (.refl _)
 rw [if_neg H] at hm
 rcases Decidable.em ((C : Int) = (2 : Int)) with I | I
 rw [if_pos I] at hm
 refine Ts rfl (st_aidx1 (cs := [.func (.func 19) #[] #[], .func (.func 20) #[] #[], .func (.func 21) #[] #[]]) 2 rfl rfl I (by decide) rfl arr63 one33)<|As rfl rfl<|Te<|Cr<|M rfl rfl<|Ts rfl (sD (vs := [_, _, _, _, _]) 0 5 rfl agg28 rfl rfl rfl) ?_
 obtain ⟨aA, bg, hm⟩ := bS hm
 refine Do rfl (u_callvW0 #[] #[] [.agg #[sv i a.Stations g, sv k a.Sections m, sv n a.Links o, sv p a.Signals q, sv r a.Gates s]] rfl call21 rfl (fun w ho => cLineCheckGates _ [] a i g k m n o p q r s ((z.le (c.trans (d.trans (e.trans f)))).old ho) ((B.le (c.trans (d.trans (e.trans f)))).old ho) ((J.le (c.trans (d.trans (e.trans f)))).old ho) ((K.le (c.trans (d.trans (e.trans f)))).old ho) ((L.le (c.trans (d.trans (e.trans f)))).old ho) aA bg) (fun _ _ _ h => h.2.symm)) ?_
 rintro _ _ ⟨⟨_, rfl, _⟩, rfl⟩
 refine As rfl rfl<|Te<|Cr<|M rfl rfl<|Ts rfl (q2 rfl rfl)<|Te ?_
 refine Cc _ rfl (fun ag => ?_) (fun ag => ?_)
 rw [if_pos (of_decide_eq_true ag)] at hm
 refine Cr<|M rfl rfl<|As rfl rfl<|Te<|Ct<|Xb<|Xr<|Xr<|Xb<|Xr ?_
 have bh := ad _ (Option.some.inj hm).symm
 rw [bh] at y
 have hm := elimR y
 obtain rfl := o1 hm
 exact rM (rs := [.tmp 2]) (vs := [iv aA]) ⟨rfl, trivial⟩ ⟨rfl, rfl⟩ (.cons _ (.refl _)) (c.trans (d.trans (e.trans f)))
 rw [if_neg (of_decide_eq_false ag)] at hm
 refine Ck<|Xm<|Xn<|Cg<|Ts rfl (sa rfl rfl (by omega))<|M rfl rfl<|Tn ?_
 exact xM hm ⟨rfl, rfl, (f)⟩ (.refl _)
 rw [if_neg I] at hm
 cases hm
 rintro _ ac _ _ ⟨rfl, rfl, f⟩ bi
 rw [bi] at y
 have hm := elimL y
 refine Cr<|Ts rfl (lF rfl rfl (by omega))<|Te<|Cs<|c_cond_f rfl<|Ce<|Xe<|Xe<|Xo<|Xn ?_
 refine Cr<|As rfl rfl<|Te<|Ct ?_
 obtain rfl := o1 hm
 exact rM (rs := [.tmp 2]) (vs := [iv 0]) ⟨rfl, trivial⟩ ⟨rfl, rfl⟩ (.cons _ (.refl _)) (c.trans (d.trans (e.trans f)))

set_option maxRecDepth 20000 in
theorem cLineRead (b : Base) (R : Hp) (hG : GOn GT b) (x1 : ByteArray) (x287 : Int) (I : (List ByteArray)) (J : (List ApiSection)) (K : (List ApiLink)) (L : (List ApiSignal)) (O : (List ApiGate)) (hm : mLineRead x1 = some (x287, I, J, K, L, O)) :
    CallsG Tryd.prog 7 [.string (x1)] b (R) (fun v b' hp' => ∃ (A264 : OA), ∃ (c265 : Nat), ∃ (hs263 : Hp), ∃ (A269 : OA), ∃ (c270 : Nat), ∃ (hs268 : Hp), ∃ (A274 : OA), ∃ (c275 : Nat), ∃ (hs273 : Hp), ∃ (A279 : OA), ∃ (c280 : Nat), ∃ (hs278 : Hp), ∃ (A284 : OA), ∃ (c285 : Nat), ∃ (hs283 : Hp), .tuple #[.agg #[sv A264 I c265, sv A269 J c270, sv A274 K c275, sv A279 L c280, sv A284 O c285], iv x287] = v ∧ (hs263 ++ (hs268 ++ (hs273 ++ (hs278 ++ (hs283 ++ R))))) = hp' ∧ OS 9 (OT.fr RT.str) b'.w (sv A264 I c265) I hs263 ∧ (A264 = none ↔ I = []) ∧ OS 39 (OT.fr rApiSection) b'.w (sv A269 J c270) J hs268 ∧ (A269 = none ↔ J = []) ∧ OS 42 (OT.fr rApiLink) b'.w (sv A274 K c275) K hs273 ∧ (A274 = none ↔ K = []) ∧ OS 45 (OT.fr rApiSignal) b'.w (sv A279 L c280) L hs278 ∧ (A279 = none ↔ L = []) ∧ OS 48 (OT.fr rApiGate) b'.w (sv A284 O c285) O hs283 ∧ (A284 = none ↔ O = [])) := by
 refine fE 45 Tryd.func7 rfl Tryd.ntmps7 rfl ?_
 unfold mLineRead at hm
 refine Cr<|Do rfl (uA [sn, sn, sn, sn, sn] zero28 rfl) ?_
 rintro _ _ ⟨g298, rfl, rfl⟩
 refine As rfl rfl<|Te<|Cs<|Cr<|M rfl rfl<|Ts rfl (st_slen rfl str9)<|Ts rfl (q5 rfl rfl)<|Te ?_
 refine Cc _ rfl (fun hc299 => ?_) (fun hc299 => ?_)
 rw [if_pos (of_decide_eq_true hc299)] at hm
 refine Cr<|Ts rfl (sB (v := .agg #[sn, sn, sn, sn, sn]) [] rfl (fun _ => by kernel_rfl))<|Do rfl (uN (vs := [_, _, _, _, _]) 0 5 rfl rfl rfl siz28 rfl (mc rfl (mc rfl (mc rfl (mc rfl (mc rfl mn))))) rfl (by simp)) ?_
 rintro _ _ rfl
 refine As rfl rfl<|Te<|Ct<|Xr ?_
 obtain ⟨rfl, rfl, rfl, rfl, rfl, rfl⟩ := some6 hm
 exact rM (rs := [.cell 2 28, .tmp 3]) (vs := [.agg #[sn, sn, sn, sn, sn], iv 4]) ⟨⟨_, rfl, fun w ho => cell_agg (vs := [_, _, _, _, _]) 0 5 agg28 rfl rfl rfl w ho⟩, ⟨rfl, trivial⟩⟩ ⟨none, 0, [], none, 0, [], none, 0, [], none, 0, [], none, 0, [], rfl, rfl, OS.nil, ⟨fun _ => rfl, fun _ => rfl⟩, OS.nil, ⟨fun _ => rfl, fun _ => rfl⟩, OS.nil, ⟨fun _ => rfl, fun _ => rfl⟩, OS.nil, ⟨fun _ => rfl, fun _ => rfl⟩, OS.nil, ⟨fun _ => rfl, fun _ => rfl⟩⟩ (.cons _ (.refl _)) lr
 rw [if_neg (of_decide_eq_false hc299)] at hm
 refine Ck<|Xn<|Cr<|M rfl rfl ?_
 obtain ⟨⟨x300, T⟩, hcl302, hm⟩ := bS hm
 have hm := (unc2E hm)
 refine Tg _ rfl call22 rfl (cLineLines _ _ x1 x300 T hcl302) ?_
 rintro _ b303 _ S ⟨A305, c306, a, rfl, rfl, h308⟩
 refine t_in1 [] [_] a R rfl<|M rfl rfl<|Ts rfl (st_extract rfl rfl)<|Ts rfl (st_extract rfl rfl)<|As rfl rfl<|As rfl rfl<|Te<|Cs<|Cr<|M rfl rfl ?_
 refine Ts rfl (sn2 rfl)<|Te ?_
 refine Cc _ rfl (fun hc309 => ?_) (fun hc309 => ?_)
 rw [if_neg (fun hh => Bool.noConfusion (hh.symm.trans (nt hc309)))] at hm
 refine Cr<|Ts rfl (sB (v := .agg #[sn, sn, sn, sn, sn]) [] rfl (fun _ => by kernel_rfl))<|Do rfl (uN (vs := [_, _, _, _, _]) 0 5 rfl rfl rfl siz28 rfl (mc rfl (mc rfl (mc rfl (mc rfl (mc rfl mn))))) rfl (by simp)) ?_
 rintro _ _ rfl
 refine As rfl rfl<|Te<|Ct<|Xr ?_
 obtain ⟨rfl, rfl, rfl, rfl, rfl, rfl⟩ := some6 hm
 exact rM (rs := [.cell 2 28, .tmp 3]) (vs := [.agg #[sn, sn, sn, sn, sn], iv 10]) ⟨⟨_, rfl, fun w ho => cell_agg (vs := [_, _, _, _, _]) 0 5 agg28 rfl rfl rfl w ho⟩, ⟨rfl, trivial⟩⟩ ⟨none, 0, [], none, 0, [], none, 0, [], none, 0, [], none, 0, [], rfl, rfl, OS.nil, ⟨fun _ => rfl, fun _ => rfl⟩, OS.nil, ⟨fun _ => rfl, fun _ => rfl⟩, OS.nil, ⟨fun _ => rfl, fun _ => rfl⟩, OS.nil, ⟨fun _ => rfl, fun _ => rfl⟩, OS.nil, ⟨fun _ => rfl, fun _ => rfl⟩⟩ (.cons _ (ss a (.refl _))) S
 rw [if_pos (nf hc309)] at hm
 refine Ck<|Xn<|Cr<|Do rfl (uA [sn, sn, sn, sn, sn] zero28 rfl) ?_
 rintro _ _ ⟨g310, rfl, rfl⟩
 refine Te<|Cr<|As rfl rfl<|Te<|Cs<|Cr<|M rfl rfl<|Ts rfl (sE rfl sl64)<|M rfl rfl<|Te ?_
 refine Cb ?_
 have hb312 : T.length ≤ 9223372036854775807 := (OS.len h308)
 refine Cp 1 rfl ?_
 obtain ⟨t496, hl497, U⟩ := bS hm
 refine cF (fun k495 => unc6 fun x484 i j k m n => fun B e' hp' => ∃ (p : OA), ∃ (C : Nat), ∃ (c : Hp), ∃ (q : OA), ∃ (D : Nat), ∃ (d : Hp), ∃ (r : OA), ∃ (E : Nat), ∃ (e : Hp), ∃ (s : OA), ∃ (F : Nat), ∃ (f : Hp), ∃ (t : OA), ∃ (G : Nat), ∃ (g : Hp), [(2, pb g298), (6, pb g310), (7, iv x484), (24, sv A305 T c306), (25, iv ((T.length : Int))), (26, iv ((k495 : Int)))] = e' ∧ (g298, Cl 28 [sn, sn, sn, sn, sn]) :: (g310, Cl 28 [sv p i C, sv q j D, sv r k E, sv s m F, sv t n G]) :: (a ++ (c ++ (d ++ (e ++ (f ++ (g ++ R)))))) = hp' ∧ b303.Le B ∧ OS 9 (OT.fr RT.str) B.w (sv p i C) i c ∧ (p = none ↔ i = []) ∧ OS 39 (OT.fr rApiSection) B.w (sv q j D) j d ∧ (q = none ↔ j = []) ∧ OS 42 (OT.fr rApiLink) B.w (sv r k E) k e ∧ (r = none ↔ k = []) ∧ OS 45 (OT.fr rApiSignal) B.w (sv s m F) m f ∧ (s = none ↔ m = []) ∧ OS 48 (OT.fr rApiGate) B.w (sv t n G) n g ∧ (t = none ↔ n = [])) hl497 ⟨none, 0, [], none, 0, [], none, 0, [], none, 0, [], none, 0, [], rfl, rfl, lr, OS.nil, ⟨fun _ => rfl, fun _ => rfl⟩, OS.nil, ⟨fun _ => rfl, fun _ => rfl⟩, OS.nil, ⟨fun _ => rfl, fun _ => rfl⟩, OS.nil, ⟨fun _ => rfl, fun _ => rfl⟩, OS.nil, ⟨fun _ => rfl, fun _ => rfl⟩⟩ (.refl _) ?_ ?_
 rintro k495 ⟨x484, i, j, k, m, n⟩ B _ _ oL311 hknL311 ⟨p, C, c, q, D, d, r, E, e, s, F, f, t, G, g, rfl, rfl, H, V, hnz486, W, hnz488, X, hnz490, Y, hnz492, Z, hnz494⟩ hstepL311 houtL311
 unfold mLineRead_L311 at hstepL311
 have hm := (unc6E hstepL311)
 refine Cr<|Ts rfl (lT rfl rfl (by omega))<|Te<|Cs<|c_cond_t rfl<|Ck<|Xn<|Cs<|Cb<|Cr ?_
 obtain ⟨x499, h500, hm⟩ := bS hm
 obtain ⟨j501, hj502, hx503⟩ := iS h500
 obtain ⟨cs504, hs509, P510, P511, hq512, hr505, hcs506, hA507, hlt508, hb513, hho514⟩ := OS.get (sz := 1) rfl (by decide) (h308.le H) hx503
 obtain ⟨⟨A515, c516, rfl, h517⟩, rfl⟩ := hr505
 refine Ts rfl (sI j501 rfl rfl hj502 hlt508 hA507 sl64)<|Ts rfl (st_load_rd rfl one22 (fun w ho => hcs506 w _ ho (.cons _ (.cons _ (List.sublist_append_left _ _))) 0 _ rfl))<|As rfl rfl<|Te<|Cr<|M rfl rfl ?_
 obtain ⟨⟨x518, l519, l520, l521, l522, l523⟩, hcl524, hm⟩ := bS hm
 have hm := (unc6E hm)
 refine t_pullb 1 rfl<|t_front6 [_, _] a c d e f g R rfl<|t_front6 [_, _] g a c d e f R rfl<|t_front6 [_, _] f g a c d e R rfl<|t_front6 [_, _] e f g a c d R rfl<|t_front6 [_, _] d e f g a c R rfl<|t_out5 [_] [_] c d e f g (a ++ R) rfl<|Tg _ rfl call23 rfl (cLineLine _ _ (hG.le (S.trans H)) x499 i j k m n g310 A515 c516 p C c q D d r E e s F f t G g h517 V hnz486 W hnz488 X hnz490 Y hnz492 Z hnz494 x518 l519 l520 l521 l522 l523 hcl524) ?_
 rintro _ b525 _ hle526 ⟨A527, c528, u, A530, c531, x, A533, c534, y, A536, c537, z, A539, c540, A, rfl, rfl, h542, h543, h544, h545, h546, h547, h548, h549, h550, h551⟩
 refine t_in5 [_] [_] u x y z A (a ++ R) rfl<|As rfl rfl<|Te<|Cs<|Cr<|M rfl rfl<|M rfl rfl<|Ts rfl (q3 rfl rfl)<|Te ?_
 refine Cc _ rfl (fun hc552 => ?_) (fun hc552 => ?_)
 rw [if_pos (of_decide_eq_true hc552)] at hm
 refine Cr<|Ts rfl (sB (v := .agg #[sn, sn, sn, sn, sn]) [] rfl (fun _ => by kernel_rfl))<|Do rfl (uN (vs := [_, _, _, _, _]) 1 5 rfl rfl rfl siz28 rfl (mc rfl (mc rfl (mc rfl (mc rfl (mc rfl mn))))) rfl (by simp)) ?_
 rintro _ _ rfl
 refine As rfl rfl<|Te<|Ct<|Xr<|Xb<|Xr<|Xr<|Xb<|Xr ?_
 have hq553 := houtL311 _ (Option.some.inj hm).symm
 rw [hq553] at U
 have hm := elimR U
 obtain ⟨rfl, rfl, rfl, rfl, rfl, rfl⟩ := some6 hm
 exact rM (rs := [.cell 2 28, .tmp 3]) (vs := [.agg #[sn, sn, sn, sn, sn], iv 10]) ⟨⟨_, rfl, fun w ho => cell_agg (vs := [_, _, _, _, _]) 1 5 agg28 rfl rfl rfl w ho⟩, ⟨rfl, trivial⟩⟩ ⟨none, 0, [], none, 0, [], none, 0, [], none, 0, [], none, 0, [], rfl, rfl, OS.nil, ⟨fun _ => rfl, fun _ => rfl⟩, OS.nil, ⟨fun _ => rfl, fun _ => rfl⟩, OS.nil, ⟨fun _ => rfl, fun _ => rfl⟩, OS.nil, ⟨fun _ => rfl, fun _ => rfl⟩, OS.nil, ⟨fun _ => rfl, fun _ => rfl⟩⟩ (.cons _ (.cons _ (ss u (ss x (ss y (ss z (ss A (ss a (.refl _))))))))) (S.trans (H.trans hle526))
 rw [if_neg (of_decide_eq_false hc552)] at hm
 refine Ck<|Xn<|Cg<|M rfl rfl<|As rfl rfl<|Tn<|Xm<|Xn<|Cg<|Ts rfl (sa rfl rfl (by omega)) ?_
 refine M rfl rfl<|Tn<|Xp 1 rfl<|X5 [_, _] u x y z A (a ++ R) rfl<|X5 [_, _] A u x y z (a ++ R) rfl<|X5 [_, _] z A u x y (a ++ R) rfl<|X5 [_, _] y z A u x (a ++ R) rfl<|X5 [_, _] x y z A u (a ++ R) rfl<|X6 [_, _] u x y z A a R rfl ?_
 exact xM hm ⟨A527, c528, u, A530, c531, x, A533, c534, y, A536, c537, z, A539, c540, A, rfl, rfl, ((H.trans hle526)), h542, h543, h544, h545, h546, h547, h548, h549, h550, h551⟩ (.refl _)
 rintro ⟨x484, i, j, k, m, n⟩ B _ _ ⟨p, C, c, q, D, d, r, E, e, s, F, f, t, G, g, rfl, rfl, H, V, hnz486, W, hnz488, X, hnz490, Y, hnz492, Z, hnz494⟩ hq554
 rw [hq554] at U
 have hm := elimL U
 have hm := (unc6E hm)
 refine Cr<|Ts rfl (lF rfl rfl (by omega))<|Te<|Cs<|c_cond_f rfl<|Ce<|Xe<|Xe<|Xo<|Xn ?_
 refine Cs<|Cr<|Ts rfl (sD (vs := [_, _, _, _, _]) 1 5 rfl agg28 rfl rfl rfl) ?_
 obtain ⟨x555, hcl556, hm⟩ := bS hm
 refine Do rfl (uW _ call6 rfl (fun w ho => cLineCheck _ [] (⟨i, j, k, m, n⟩ : ApiNet) p C q D r E s F t G (OS.now (o := (OT.fr RT.str)) (l := i) (hs := c) V ho (.cons _ (.cons _ (ss a (List.sublist_append_left _ _))))) (OS.now (o := (OT.fr rApiSection)) (l := j) (hs := d) W ho (.cons _ (.cons _ (ss a (ss c (List.sublist_append_left _ _)))))) (OS.now (o := (OT.fr rApiLink)) (l := k) (hs := e) X ho (.cons _ (.cons _ (ss a (ss c (ss d (List.sublist_append_left _ _))))))) (OS.now (o := (OT.fr rApiSignal)) (l := m) (hs := f) Y ho (.cons _ (.cons _ (ss a (ss c (ss d (ss e (List.sublist_append_left _ _)))))))) (OS.now (o := (OT.fr rApiGate)) (l := n) (hs := g) Z ho (.cons _ (.cons _ (ss a (ss c (ss d (ss e (ss f (List.sublist_append_left _ _))))))))) x555 hcl556) (fun _ _ _ h => h.2.symm)) ?_
 rintro _ _ ⟨⟨_, rfl, _⟩, rfl⟩
 refine As rfl rfl<|Te<|Cr<|M rfl rfl<|Ts rfl (q2 rfl rfl)<|Te ?_
 refine Cc _ rfl (fun hc557 => ?_) (fun hc557 => ?_)
 rw [if_pos (of_decide_eq_true hc557)] at hm
 refine Cr<|Ts rfl (sB (v := .agg #[sn, sn, sn, sn, sn]) [] rfl (fun _ => by kernel_rfl))<|M rfl rfl<|Do rfl (uN (vs := [_, _, _, _, _]) 0 5 rfl rfl rfl siz28 rfl (mc rfl (mc rfl (mc rfl (mc rfl (mc rfl mn))))) rfl (by simp)) ?_
 rintro _ _ rfl
 refine As rfl rfl<|Te<|Ct<|Xr ?_
 obtain ⟨rfl, rfl, rfl, rfl, rfl, rfl⟩ := some6 hm
 exact rM (rs := [.cell 2 28, .tmp 3]) (vs := [.agg #[sn, sn, sn, sn, sn], iv x555]) ⟨⟨_, rfl, fun w ho => cell_agg (vs := [_, _, _, _, _]) 0 5 agg28 rfl rfl rfl w ho⟩, ⟨rfl, trivial⟩⟩ ⟨none, 0, [], none, 0, [], none, 0, [], none, 0, [], none, 0, [], rfl, rfl, OS.nil, ⟨fun _ => rfl, fun _ => rfl⟩, OS.nil, ⟨fun _ => rfl, fun _ => rfl⟩, OS.nil, ⟨fun _ => rfl, fun _ => rfl⟩, OS.nil, ⟨fun _ => rfl, fun _ => rfl⟩, OS.nil, ⟨fun _ => rfl, fun _ => rfl⟩⟩ (.cons _ (.cons _ (ss a (ss c (ss d (ss e (ss f (ss g (.refl _))))))))) (S.trans H)
 rw [if_neg (of_decide_eq_false hc557)] at hm
 refine Ck<|Xn<|Cr<|Ts rfl (sD (vs := [_, _, _, _, _]) 1 5 rfl agg28 rfl rfl rfl)<|Do rfl (uN (vs := [_, _, _, _, _]) 0 5 rfl rfl rfl siz28 rfl (mc rfl (mc rfl (mc rfl (mc rfl (mc rfl mn))))) rfl (by simp)) ?_
 rintro _ _ rfl
 refine As rfl rfl<|Te<|Ct ?_
 obtain ⟨rfl, rfl, rfl, rfl, rfl, rfl⟩ := some6 hm
 refine X6 [_, _] a c d e f g R rfl<|X6 [_, _] g a c d e f R rfl<|X6 [_, _] f g a c d e R rfl<|X6 [_, _] e f g a c d R rfl<|X6 [_, _] d e f g a c R rfl ?_
 exact rM (rs := [.cell 2 28, .tmp 3]) (vs := [.agg #[sv p i C, sv q j D, sv r k E, sv s m F, sv t n G], iv 0]) ⟨⟨_, rfl, fun w ho => cell_agg (vs := [_, _, _, _, _]) 0 5 agg28 rfl rfl rfl w ho⟩, ⟨rfl, trivial⟩⟩ ⟨p, C, c, q, D, d, r, E, e, s, F, f, t, G, g, rfl, rfl, V, hnz486, W, hnz488, X, hnz490, Y, hnz492, Z, hnz494⟩ (.cons _ (.cons _ (sp c (sp d (sp e (sp f (sp g (ss a (.refl _))))))))) (S.trans H)

set_option maxRecDepth 20000 in
theorem cFishkeep1AwakeLine (b : Base) (R : Hp) (hG : GOn GT b) (a : Bool) (hm : mFishkeep1AwakeLine = some a) :
    CallsG Tryd.prog 4 [] b (R) (fun v b' hp' => bv a = v ∧ R = hp') := by
 refine fE 9 Tryd.func4 rfl Tryd.ntmps4 rfl ?_
 unfold mFishkeep1AwakeLine at hm
 refine Cr<|As rfl rfl<|Te<|Cr ?_
 obtain ⟨⟨c, i, j, k, l, m⟩, n, hm⟩ := bS hm
 have hm := (unc6E hm)
 refine Tg _ rfl call7 rfl (cLineRead _ _ (hG.le lr) (ByteArray.mk #[120]) c i j k l m n) ?_
 rintro _ p _ o ⟨q, r, d, s, t, e, u, w, f, x, y, g, z, A, h, rfl, rfl, B, C, D, E, F, G, H, I, J, K⟩
 refine t_in5 [] [] d e f g h R rfl<|M rfl rfl<|Ts rfl (st_extract rfl rfl)<|Ts rfl (st_extract rfl rfl)<|Do rfl (uA [sn, sn, sn, sn, sn] zero28 rfl) ?_
 rintro _ _ ⟨L, rfl, rfl⟩
 refine Do rfl (uN (vs := [_, _, _, _, _]) 0 5 rfl rfl rfl siz28 rfl (mc rfl (mc rfl (mc rfl (mc rfl (mc rfl mn))))) rfl (by simp)) ?_
 rintro _ _ rfl
 refine As rfl rfl<|Te<|Cr<|M rfl rfl<|Ts rfl (q2 rfl rfl)<|As rfl rfl<|Te<|Ct ?_
 obtain rfl := o1 hm
 exact rM (rs := [.tmp 0]) (vs := [.bool (decide (c ≠ 0))]) ⟨rfl, trivial⟩ ⟨rfl, rfl⟩ (.cons _ (ss d (ss e (ss f (ss g (ss h (.refl _))))))) o

set_option maxRecDepth 20000 in
theorem cStringsJoin (b : Base) (R : Hp) (a : (List ByteArray)) (c : ByteArray) (d : OA) (e : Nat) (g : FZ RT.str b.w d e a) (f : ByteArray) (hm : mStringsJoin a c = some f) :
    CallsG Tryd.prog 26 [sv d a e, .string (c)] b (R) (fun v b' hp' => .string (f) = v ∧ R = hp') := by
 unfold mStringsJoin at hm
 exact join_c g hm

set_option maxRecDepth 20000 in
theorem cLineJoin (b : Base) (R : Hp) (hG : GOn GT b) (f : (List Dyn)) (t : OA) (u : Nat) (E : FZ (RT.dyn 3 4 9) b.w t u f) (F : ByteArray) (hm : mLineJoin f = some F) :
    CallsG Tryd.prog 14 [sv t f u] b (R) (fun v b' hp' => .string (F) = v ∧ R = hp') := by
 refine fE 45 Tryd.func14 rfl Tryd.ntmps14 rfl ?_
 unfold mLineJoin at hm
 refine Cr<|As rfl rfl<|Te<|Cr<|As rfl rfl<|Te<|Cs<|Cr<|M rfl rfl<|Ts rfl (sE rfl sl69) ?_
 refine M rfl rfl<|Te<|Cb ?_
 have ay : f.length ≤ 9223372036854775807 := (FZ.bd E)
 obtain ⟨c, S, T⟩ := bS hm
 refine cS (fun G => fun c => fun q e' hp' => ∃ (g : OA), ∃ (j : Nat), ∃ (a : Hp), [(3, sv g c j), (9, sv t f u), (10, iv ((f.length : Int))), (11, iv ((G : Int)))] = e' ∧ (a ++ R) = hp' ∧ b.Le q ∧ OS 9 (OT.fr RT.str) q.w (sv g c j) c a) S ⟨none, 0, [], rfl, rfl, lr, OS.nil⟩ (.refl _) ?_ ?_
 rintro G c q _ _ az aA ⟨g, j, a, rfl, rfl, d, m⟩ H
 unfold mLineJoin_L176 at H
 have hm := H
 refine Cr<|Ts rfl (lT rfl rfl (by omega))<|Te<|Cs<|c_cond_t rfl<|Ck<|Xn<|Cs<|Cb<|Cr ?_
 obtain ⟨e, U, hm⟩ := bS hm
 obtain ⟨V, W, X⟩ := iS U
 obtain ⟨aB, Y, Z, aa, ab⟩ := FZ.get (sz := 1) rfl (by decide) (E.le d) X
 obtain rfl := Y
 refine Ts rfl (sI V rfl rfl W ab aa sl69)<|Ts rfl (sO rfl one20 (Z 0 _ rfl))<|As rfl rfl<|Te<|Cr<|M rfl rfl<|Te<|Cb<|Cr<|Ts rfl (st_tas rfl dys9 zero9) ?_
 refine Ts rfl (st_extract rfl rfl)<|Ts rfl (st_extract rfl rfl)<|Te ?_
 refine Cc _ rfl (fun x => ?_) (fun x => ?_)
 rw [if_pos x] at hm
 refine Cr<|As rfl rfl<|Te<|Cg<|M rfl rfl<|M rfl rfl<|Do rfl (u_bslice (el := 9) [(0, .string ((dynVs e)))] [.string ((dynVs e))] rfl (fun _ => by kernel_rfl)) ?_
 rintro _ _ ⟨aC, rfl, rfl⟩
 obtain ⟨_, y, hm⟩ := bS hm
 have y := room_some y
 refine Do rfl (uQ (r := RT.str) (l := c) [_] R [[.string ((dynVs e))]] [(dynVs e)] rfl (by decide) sl22 inf9 rfl rfl rfl rfl m rfl (fun w ho => Rd.own (i := 0) ho rfl) ⟨rfl, trivial⟩ y) ?_
 rintro _ _ ⟨ac, rfl, I⟩
 obtain ⟨ad, ae, rfl, _⟩ := I.form
 refine As rfl rfl<|Tn<|Xm<|Xm<|Xn<|Cg<|Ts rfl (sa rfl rfl (by omega))<|M rfl rfl<|Tn ?_
 obtain rfl := o1 hm
 exact xS ⟨ad, ae, ac, rfl, rfl, (d), I⟩ (.cons _ (.refl _))
 rw [if_neg (fun hh => Bool.noConfusion (hh.symm.trans x))] at hm
 refine Cr<|Ts rfl (st_tai rfl dyi3 zero3)<|Ts rfl (st_extract rfl rfl)<|Ts rfl (st_extract rfl rfl)<|Te ?_
 refine Cc _ rfl (fun z => ?_) (fun z => ?_)
 rw [if_pos z] at hm
 refine Cr<|As rfl rfl<|Te<|Cg<|M rfl rfl<|M rfl rfl ?_
 obtain ⟨p, af, hm⟩ := bS hm
 refine Do rfl (uW _ call25 rfl (fun w ho => cStrconvItoa _ [] ((hG.le d).old ho) (dynVi e) p af) (fun _ _ _ h => h.2.symm)) ?_
 rintro _ _ ⟨⟨_, rfl, _⟩, rfl⟩
 refine Do rfl (u_bslice (el := 9) [(0, .string (p))] [.string (p)] rfl (fun _ => by kernel_rfl)) ?_
 rintro _ _ ⟨aD, rfl, rfl⟩
 obtain ⟨_, A, hm⟩ := bS hm
 have A := room_some A
 refine Do rfl (uQ (r := RT.str) (l := c) [_] R [[.string (p)]] [p] rfl (by decide) sl22 inf9 rfl rfl rfl rfl m rfl (fun w ho => Rd.own (i := 0) ho rfl) ⟨rfl, trivial⟩ A) ?_
 rintro _ _ ⟨ag, rfl, J⟩
 obtain ⟨ah, ai, rfl, _⟩ := J.form
 refine As rfl rfl<|Tn<|Xm<|Xm<|Xn<|Cg<|Ts rfl (sa rfl rfl (by omega))<|M rfl rfl<|Tn ?_
 obtain rfl := o1 hm
 exact xS ⟨ah, ai, ag, rfl, rfl, (d), J⟩ (.cons _ (.refl _))
 rw [if_neg (fun hh => Bool.noConfusion (hh.symm.trans z))] at hm
 refine Cr<|Ts rfl (st_tab rfl dyb4 zero4)<|Ts rfl (st_extract rfl rfl)<|Ts rfl (st_extract rfl rfl)<|Te ?_
 refine Cc _ rfl (fun B => ?_) (fun B => ?_)
 rw [if_pos B] at hm
 refine Cr<|As rfl rfl<|Te<|Cg<|M rfl rfl<|Do rfl (u_mmap RT.bool (OT.fr RT.str) false false [] (a ++ R) rfl) ?_
 rintro _ _ ⟨aE, aF, rfl, rfl, aj⟩
 refine Do rfl (u_mputF kok4 [] [] (a ++ R) rfl aj mapt71 rfl rfl rfl rfl ⟨rfl, rfl⟩ _ (.inr rfl)) ?_
 rintro _ _ ⟨aG, rfl, aH, ak⟩
 refine Do rfl (u_mputF kok4 [] [] (a ++ R) rfl ak mapt71 rfl rfl rfl rfl ⟨rfl, rfl⟩ _ (.inr rfl)) ?_
 rintro _ _ ⟨C, rfl, aI, al⟩
 refine M rfl rfl<|M rfl rfl ?_
 obtain ⟨n, am, hm⟩ := bS hm
 have an := Option.some.inj am
 obtain ⟨K, s, ao⟩ := OM.lookF kok4 (z0 := ByteArray.empty) al (key := .bool (dynVb e)) (k := dynVb e) rfl mapt71 zero9 rfl
 rw [an] at s
 obtain rfl : K = .string (n) := by have s : [K] = [.string (n)] := s; injection s
 refine Ts rfl (st_mlook (ok := false) rfl rfl (fun w ho => ao _ w ho (List.sublist_append_left _ _) false))<|Do rfl (u_bslice (el := 9) [(0, .string (n))] [.string (n)] rfl (fun _ => by kernel_rfl)) ?_
 rintro _ _ ⟨g336, rfl, rfl⟩
 obtain ⟨_, D, hm⟩ := bS hm
 have D := room_some D
 refine t_front2 [_] C a R rfl<|Do rfl (uQ (r := RT.str) (l := c) [_] (C ++ R) [[.string (n)]] [n] rfl (by decide) sl22 inf9 rfl rfl rfl rfl m rfl (fun w ho => Rd.own (i := 0) ho rfl) ⟨rfl, trivial⟩ D) ?_
 rintro _ _ ⟨L, rfl, O⟩
 obtain ⟨aq, ar, rfl, _⟩ := O.form
 refine As rfl rfl<|Tn<|Xm<|Xm<|Xn<|Cg<|Ts rfl (sa rfl rfl (by omega))<|M rfl rfl<|Tn ?_
 obtain rfl := o1 hm
 exact xS ⟨aq, ar, L, rfl, rfl, (d), O⟩ (.cons _ (sp L (ss C (.refl _))))
 rw [if_neg (fun hh => Bool.noConfusion (hh.symm.trans B))] at hm
 refine Ck<|Xm<|Xm<|Xn<|Cg<|Ts rfl (sa rfl rfl (by omega))<|M rfl rfl<|Tn ?_
 obtain rfl := o1 hm
 exact xS ⟨g, j, a, rfl, rfl, (d), m⟩ (.refl _)
 rintro q _ _ ⟨g, j, a, rfl, rfl, d, m⟩
 have hm := T
 refine Cr<|Ts rfl (lF rfl rfl (by omega))<|Te<|Cs<|c_cond_f rfl<|Ce<|Xe<|Xe<|Xo<|Xn ?_
 refine Cr<|M rfl rfl ?_
 obtain ⟨au, av, hm⟩ := bS hm
 refine Do rfl (uW _ call26 rfl (fun w ho => cStringsJoin _ [] c (ByteArray.mk #[32]) g j (OS.now (o := (OT.fr RT.str)) (l := c) (hs := a) m ho (List.sublist_append_left _ _)) au av) (fun _ _ _ h => h.2.symm)) ?_
 rintro _ _ ⟨⟨_, rfl, _⟩, rfl⟩
 obtain ⟨aw, ax, hm⟩ := bS hm
 refine Ts rfl (st_sadd rfl rfl ax)<|As rfl rfl<|Te<|Ct ?_
 obtain rfl := o1 hm
 exact rM (rs := [.tmp 2]) (vs := [.string (aw)]) ⟨rfl, trivial⟩ ⟨rfl, rfl⟩ (ss a (.refl _)) d

set_option maxRecDepth 20000 in
theorem cStringsBuilderWriteString (b : Base) (R : Hp) (c : ByteArray) (d : ByteArray) (a : Nat) (e : Hp) (i : OB 53 5 b.w a d e) (f : Int) (g : ByteArray) (hm : mStringsBuilderWriteString c d = some (f, g)) :
    CallsG Tryd.prog 13 [pb a, .string (c)] b ((e ++ R)) (fun v b' hp' => ∃ (h : Hp), .tuple #[iv f, .nilIface] = v ∧ (h ++ R) = hp' ∧ OB 53 5 b'.w a g h) := by
 unfold mStringsBuilderWriteString at hm
 exact bwrite_c i hm

set_option maxRecDepth 20000 in
theorem cStringsBuilderString (b : Base) (R : Hp) (a : ByteArray) (c : Nat) (d : Hp) (f : OB 53 5 b.w c a d) (e : ByteArray) (hm : mStringsBuilderString a = some e) :
    CallsG Tryd.prog 15 [pb c] b ((d ++ R)) (fun v b' hp' => .string (e) = v ∧ R = hp') := by
 unfold mStringsBuilderString at hm
 exact bstring_c f hm

set_option maxRecDepth 20000 in
theorem cLineText (b : Base) (R : Hp) (hG : GOn GT b) (d : ApiNet) (x : OA) (y : Nat) (z : OA) (A : Nat) (B : OA) (C : Nat) (D : OA) (E : Nat) (F : OA) (G : Nat) (h4 : FZ RT.str b.w x y d.Stations) (h7 : FZ rApiSection b.w z A d.Sections) (h10 : FZ rApiLink b.w B C d.Links) (h13 : FZ rApiSignal b.w D E d.Signals) (h16 : FZ rApiGate b.w F G d.Gates) (x523 : ByteArray) (x524 : Int) (hm : mLineText d = some (x523, x524)) :
    CallsG Tryd.prog 5 [.agg #[sv x d.Stations y, sv z d.Sections A, sv B d.Links C, sv D d.Signals E, sv F d.Gates G]] b (R) (fun v b' hp' => .tuple #[.string (x523), iv x524] = v ∧ R = hp') := by
 refine fE 161 Tryd.func5 rfl Tryd.ntmps5 rfl ?_
 unfold mLineText at hm
 refine Cr<|Do rfl (uB _ rfl rfl) ?_
 rintro _ _ ⟨H, rfl, rfl⟩
 refine As rfl rfl<|As rfl rfl<|Te<|Cs<|Cr<|Ts rfl (sD (vs := [_, _, _, _, _]) 0 5 rfl agg28 rfl rfl rfl) ?_
 obtain ⟨x526, hcl527, hm⟩ := bS hm
 refine Do rfl (uW _ call6 rfl (fun w ho => cLineCheck _ [] d x y z A B C D E F G (h4.old ho) (h7.old ho) (h10.old ho) (h13.old ho) (h16.old ho) x526 hcl527) (fun _ _ _ h => h.2.symm)) ?_
 rintro _ _ ⟨⟨_, rfl, _⟩, rfl⟩
 refine As rfl rfl<|Te<|Cr<|M rfl rfl<|Ts rfl (q2 rfl rfl)<|Te ?_
 refine Cc _ rfl (fun hc528 => ?_) (fun hc528 => ?_)
 rw [if_pos (of_decide_eq_true hc528)] at hm
 refine Cr<|M rfl rfl<|As rfl rfl<|As rfl rfl<|Te<|Ct<|Xr ?_
 obtain ⟨rfl, rfl⟩ := some2 hm
 exact rM (rs := [.tmp 2, .tmp 3]) (vs := [.string ((ByteArray.mk #[])), iv x526]) ⟨rfl, ⟨rfl, trivial⟩⟩ ⟨rfl, rfl⟩ (.cons _ (.refl _)) lr
 rw [if_neg (of_decide_eq_false hc528)] at hm
 refine Ck<|Xn<|Cr<|Do rfl (u_balloc 5 [_] R rfl zero53 rfl) ?_
 rintro _ _ ⟨i, hs530, rfl, rfl, h531⟩
 refine Te<|Cs<|Cr<|Ts rfl (sF rfl fld28_0)<|Ts rfl (sL 0 rfl one22 rfl rfl)<|Ts rfl (sE rfl sl22)<|M rfl rfl<|Te<|Cb ?_
 have hb533 : d.Stations.length ≤ 9223372036854775807 := (FZ.bd h4)
 obtain ⟨ae, hl589, hk590⟩ := bS hm
 refine cS (fun k588 => fun ae => fun W e' hp' => ∃ (r : Hp), [(1, pb H), (5, pb i), (22, sv x d.Stations y), (23, iv ((d.Stations.length : Int))), (24, iv ((k588 : Int)))] = e' ∧ (H, Cl 28 [sv x d.Stations y, sv z d.Sections A, sv B d.Links C, sv D d.Signals E, sv F d.Gates G]) :: (r ++ R) = hp' ∧ b.Le W ∧ OB 53 5 W.w i ae r) hl589 ⟨hs530, rfl, rfl, lr, h531⟩ (.refl _) ?_ ?_
 rintro k588 ae W _ _ oL532 hknL532 ⟨r, rfl, rfl, g, h586⟩ hstepL532
 unfold mLineText_L532 at hstepL532
 have hm := hstepL532
 refine Cr<|Ts rfl (lT rfl rfl (by omega))<|Te<|Cs<|c_cond_t rfl<|Ck<|Xn<|Cs<|Cb<|Cr ?_
 obtain ⟨n, h592, hm⟩ := bS hm
 obtain ⟨j593, hj594, hx595⟩ := iS h592
 obtain ⟨cs596, hr597, hcs598, hA599, hlt600⟩ := FZ.get (sz := 1) rfl (by decide) (h4.le g) hx595
 obtain rfl := hr597
 refine Ts rfl (sI j593 rfl rfl hj594 hlt600 hA599 sl22)<|Ts rfl (sO rfl one9 (hcs598 0 _ rfl))<|As rfl rfl<|Te<|Cg<|Ts rfl (st_mks (ti := 3) (tb := 4) rfl dys9)<|M rfl rfl<|Ts rfl (st_mks (ti := 3) (tb := 4) rfl dys9)<|Do rfl (u_bslice (el := 20) [(0, Dyn.val 3 4 9 (Dyn.s (ByteArray.mk #[115, 116, 97, 116, 105, 111, 110]))), (1, Dyn.val 3 4 9 (Dyn.s n))] [Dyn.val 3 4 9 (Dyn.s (ByteArray.mk #[115, 116, 97, 116, 105, 111, 110])), Dyn.val 3 4 9 (Dyn.s n)] rfl (fun _ => by kernel_rfl)) ?_
 rintro _ _ ⟨I, rfl, rfl⟩
 refine t_seg 0 [_] (r ++ R) rfl rfl ?_
 have h603 : OS 20 (OT.fr (RT.dyn 3 4 9)) W.w (.slice (some ⟨I, 0, none⟩) 2 2) [(Dyn.s (ByteArray.mk #[115, 116, 97, 116, 105, 111, 110])), (Dyn.s n)] [(I, Cl 20 [Dyn.val 3 4 9 (Dyn.s (ByteArray.mk #[115, 116, 97, 116, 105, 111, 110])), Dyn.val 3 4 9 (Dyn.s n)])] := OS.lit [[Dyn.val 3 4 9 (Dyn.s (ByteArray.mk #[115, 116, 97, 116, 105, 111, 110]))], [Dyn.val 3 4 9 (Dyn.s n)]] rfl ⟨rfl, ⟨rfl, trivial⟩⟩ rfl (by decide)
 obtain ⟨x604, hcl605, hm⟩ := bS hm
 refine Do rfl (uW _ call14 rfl (fun w ho => cLineJoin _ [] ((hG.le g).old ho) [(Dyn.s (ByteArray.mk #[115, 116, 97, 116, 105, 111, 110])), (Dyn.s n)] (some ⟨I, 0, none⟩) 2 (OS.now (o := (OT.fr (RT.dyn 3 4 9))) (l := [(Dyn.s (ByteArray.mk #[115, 116, 97, 116, 105, 111, 110])), (Dyn.s n)]) (hs := [(I, Cl 20 [Dyn.val 3 4 9 (Dyn.s (ByteArray.mk #[115, 116, 97, 116, 105, 111, 110])), Dyn.val 3 4 9 (Dyn.s n)])]) h603 ho (.cons _ (List.sublist_append_left _ _))) x604 hcl605) (fun _ _ _ h => h.2.symm)) ?_
 rintro _ _ ⟨⟨_, rfl, _⟩, rfl⟩
 obtain ⟨⟨x606, l607⟩, hcl608, hm⟩ := bS hm
 have hm := (unc2E hm)
 refine t_front2 [_] [(I, Cl 20 [Dyn.val 3 4 9 (Dyn.s (ByteArray.mk #[115, 116, 97, 116, 105, 111, 110])), Dyn.val 3 4 9 (Dyn.s n)])] r R rfl<|t_out1 [] [_] r ([(I, Cl 20 [Dyn.val 3 4 9 (Dyn.s (ByteArray.mk #[115, 116, 97, 116, 105, 111, 110])), Dyn.val 3 4 9 (Dyn.s n)])] ++ R) rfl<|Tg _ rfl call13 rfl (cStringsBuilderWriteString _ _ x604 ae i r h586 x606 l607 hcl608) ?_
 rintro _ b609 _ hle610 ⟨hs611, rfl, rfl, h612⟩
 refine t_in1 [] [_] hs611 ([(I, Cl 20 [Dyn.val 3 4 9 (Dyn.s (ByteArray.mk #[115, 116, 97, 116, 105, 111, 110])), Dyn.val 3 4 9 (Dyn.s n)])] ++ R) rfl<|Tn<|Xm<|Xn<|Cg<|Ts rfl (sa rfl rfl (by omega))<|M rfl rfl<|Tn ?_
 obtain rfl := o1 hm
 exact xS ⟨hs611, rfl, rfl, ((g.trans hle610)), h612⟩ (.cons_cons _ (sp hs611 (ss [(I, Cl 20 [Dyn.val 3 4 9 (Dyn.s (ByteArray.mk #[115, 116, 97, 116, 105, 111, 110])), Dyn.val 3 4 9 (Dyn.s n)])] (.refl _))))
 rintro W _ _ ⟨r, rfl, rfl, g, h586⟩
 have hm := hk590
 refine Cr<|Ts rfl (lF rfl rfl (by omega))<|Te<|Cs<|c_cond_f rfl<|Ce<|Xe<|Xe<|Xo<|Xn ?_
 refine Cs<|Cr<|Ts rfl (sF rfl fld28_1)<|Ts rfl (sL 0 rfl one23 rfl rfl)<|Ts rfl (sE rfl sl23)<|M rfl rfl<|Te<|Cb ?_
 have hb614 : d.Sections.length ≤ 9223372036854775807 := (FZ.bd (h7.le g))
 obtain ⟨X, hl724, hk725⟩ := bS hm
 refine cS (fun k723 => fun X => fun J e' hp' => ∃ (m : Hp), [(1, pb H), (5, pb i), (36, sv z d.Sections A), (37, iv ((d.Sections.length : Int))), (38, iv ((k723 : Int)))] = e' ∧ (H, Cl 28 [sv x d.Stations y, sv z d.Sections A, sv B d.Links C, sv D d.Signals E, sv F d.Gates G]) :: (m ++ R) = hp' ∧ W.Le J ∧ OB 53 5 J.w i X m) hl724 ⟨r, rfl, rfl, lr, h586⟩ (.refl _) ?_ ?_
 rintro k723 X J _ _ oL613 hknL613 ⟨m, rfl, rfl, k, aa⟩ hstepL613
 unfold mLineText_L613 at hstepL613
 have hm := hstepL613
 refine Cr<|Ts rfl (lT rfl rfl (by omega))<|Te<|Cs<|c_cond_t rfl<|Ck<|Xn<|Cs<|Cb<|Cr ?_
 obtain ⟨a, h727, hm⟩ := bS hm
 obtain ⟨j728, hj729, hx730⟩ := iS h727
 obtain ⟨cs731, hr732, hcs733, hA734, hlt735⟩ := FZ.get (sz := 7) rfl (by decide) (h7.le (g.trans k)) hx730
 obtain ⟨_, _, rfl, rfl, ⟨_, _, rfl, rfl, ⟨_, _, rfl, rfl, ⟨_, _, rfl, rfl, ⟨_, _, rfl, rfl, ⟨_, _, rfl, rfl, rfl⟩⟩⟩⟩⟩⟩ := hr732
 refine Ts rfl (sI j728 rfl rfl hj729 hlt735 hA734 sl23)<|Ts rfl (sP (vs := [iv a.Kind, iv a.Length, iv a.Grade, iv a.Speed, iv a.Slow, iv a.Station, bv a.Axles]) 7 rfl agg39 hA734 rfl (fun j u hu => hcs733 j u hu))<|Do rfl (uA [iv 0, iv 0, iv 0, iv 0, iv 0, iv 0, .bool false] zero39 rfl) ?_
 rintro _ _ ⟨g736, rfl, rfl⟩
 refine Do rfl (uN (vs := [_, _, _, _, _, _, _]) 0 7 rfl rfl rfl siz39 rfl (mc rfl (mc rfl (mc rfl (mc rfl (mc rfl (mc rfl (mc rfl mn))))))) rfl (by simp)) ?_
 rintro _ _ rfl
 refine Te<|Cr<|Ts rfl (sF rfl fld39_0)<|Ts rfl (sL 0 rfl one3 rfl rfl)<|Te<|Cb<|Cr<|Ts rfl (q1 rfl rfl)<|As rfl rfl<|Te ?_
 refine Cc _ rfl (fun hc737 => ?_) (fun hc737 => ?_)
 rw [if_pos (of_decide_eq_true hc737)] at hm
 refine Cg<|Ts rfl (st_mks (ti := 3) (tb := 4) rfl dys9)<|Ts rfl (sF rfl fld39_1)<|Ts rfl (sL 0 rfl one3 rfl rfl)<|Ts rfl (st_mki (tb := 4) (ts := 9) rfl dyi3)<|Ts rfl (sF rfl fld39_2)<|Ts rfl (sL 0 rfl one3 rfl rfl)<|Ts rfl (st_mki (tb := 4) (ts := 9) rfl dyi3)<|Ts rfl (sF rfl fld39_3)<|Ts rfl (sL 0 rfl one3 rfl rfl) ?_
 refine Ts rfl (st_mki (tb := 4) (ts := 9) rfl dyi3)<|Ts rfl (sF rfl fld39_5)<|Ts rfl (sL 0 rfl one3 rfl rfl)<|Ts rfl (st_mki (tb := 4) (ts := 9) rfl dyi3)<|Ts rfl (sF rfl fld39_6)<|Ts rfl (sL 0 rfl one4 rfl rfl)<|Ts rfl (st_mkb (ti := 3) (ts := 9) rfl dyb4)<|Do rfl (u_bslice (el := 20) [(0, Dyn.val 3 4 9 (Dyn.s (ByteArray.mk #[112, 108, 97, 105, 110]))), (1, Dyn.val 3 4 9 (Dyn.i a.Length)), (2, Dyn.val 3 4 9 (Dyn.i a.Grade)), (3, Dyn.val 3 4 9 (Dyn.i a.Speed)), (4, Dyn.val 3 4 9 (Dyn.i a.Station)), (5, Dyn.val 3 4 9 (Dyn.b a.Axles))] [Dyn.val 3 4 9 (Dyn.s (ByteArray.mk #[112, 108, 97, 105, 110])), Dyn.val 3 4 9 (Dyn.i a.Length), Dyn.val 3 4 9 (Dyn.i a.Grade), Dyn.val 3 4 9 (Dyn.i a.Speed), Dyn.val 3 4 9 (Dyn.i a.Station), Dyn.val 3 4 9 (Dyn.b a.Axles)] rfl (fun _ => by kernel_rfl)) ?_
 rintro _ _ ⟨K, rfl, rfl⟩
 refine t_seg 0 [_, _] (m ++ R) rfl rfl ?_
 have h740 : OS 20 (OT.fr (RT.dyn 3 4 9)) J.w (.slice (some ⟨K, 0, none⟩) 6 6) [(Dyn.s (ByteArray.mk #[112, 108, 97, 105, 110])), (Dyn.i a.Length), (Dyn.i a.Grade), (Dyn.i a.Speed), (Dyn.i a.Station), (Dyn.b a.Axles)] [(K, Cl 20 [Dyn.val 3 4 9 (Dyn.s (ByteArray.mk #[112, 108, 97, 105, 110])), Dyn.val 3 4 9 (Dyn.i a.Length), Dyn.val 3 4 9 (Dyn.i a.Grade), Dyn.val 3 4 9 (Dyn.i a.Speed), Dyn.val 3 4 9 (Dyn.i a.Station), Dyn.val 3 4 9 (Dyn.b a.Axles)])] := OS.lit [[Dyn.val 3 4 9 (Dyn.s (ByteArray.mk #[112, 108, 97, 105, 110]))], [Dyn.val 3 4 9 (Dyn.i a.Length)], [Dyn.val 3 4 9 (Dyn.i a.Grade)], [Dyn.val 3 4 9 (Dyn.i a.Speed)], [Dyn.val 3 4 9 (Dyn.i a.Station)], [Dyn.val 3 4 9 (Dyn.b a.Axles)]] rfl ⟨rfl, ⟨rfl, ⟨rfl, ⟨rfl, ⟨rfl, ⟨rfl, trivial⟩⟩⟩⟩⟩⟩ rfl (by decide)
 obtain ⟨x741, hcl742, hm⟩ := bS hm
 refine Do rfl (uW _ call14 rfl (fun w ho => cLineJoin _ [] ((hG.le (g.trans k)).old ho) [(Dyn.s (ByteArray.mk #[112, 108, 97, 105, 110])), (Dyn.i a.Length), (Dyn.i a.Grade), (Dyn.i a.Speed), (Dyn.i a.Station), (Dyn.b a.Axles)] (some ⟨K, 0, none⟩) 6 (OS.now (o := (OT.fr (RT.dyn 3 4 9))) (l := [(Dyn.s (ByteArray.mk #[112, 108, 97, 105, 110])), (Dyn.i a.Length), (Dyn.i a.Grade), (Dyn.i a.Speed), (Dyn.i a.Station), (Dyn.b a.Axles)]) (hs := [(K, Cl 20 [Dyn.val 3 4 9 (Dyn.s (ByteArray.mk #[112, 108, 97, 105, 110])), Dyn.val 3 4 9 (Dyn.i a.Length), Dyn.val 3 4 9 (Dyn.i a.Grade), Dyn.val 3 4 9 (Dyn.i a.Speed), Dyn.val 3 4 9 (Dyn.i a.Station), Dyn.val 3 4 9 (Dyn.b a.Axles)])]) h740 ho (.cons _ (.cons _ (List.sublist_append_left _ _)))) x741 hcl742) (fun _ _ _ h => h.2.symm)) ?_
 rintro _ _ ⟨⟨_, rfl, _⟩, rfl⟩
 obtain ⟨⟨x743, l744⟩, hcl745, hm⟩ := bS hm
 have hm := (unc2E hm)
 refine t_front2 [_, _] [(K, Cl 20 [Dyn.val 3 4 9 (Dyn.s (ByteArray.mk #[112, 108, 97, 105, 110])), Dyn.val 3 4 9 (Dyn.i a.Length), Dyn.val 3 4 9 (Dyn.i a.Grade), Dyn.val 3 4 9 (Dyn.i a.Speed), Dyn.val 3 4 9 (Dyn.i a.Station), Dyn.val 3 4 9 (Dyn.b a.Axles)])] m R rfl<|t_out1 [] [_, _] m ([(K, Cl 20 [Dyn.val 3 4 9 (Dyn.s (ByteArray.mk #[112, 108, 97, 105, 110])), Dyn.val 3 4 9 (Dyn.i a.Length), Dyn.val 3 4 9 (Dyn.i a.Grade), Dyn.val 3 4 9 (Dyn.i a.Speed), Dyn.val 3 4 9 (Dyn.i a.Station), Dyn.val 3 4 9 (Dyn.b a.Axles)])] ++ R) rfl<|Tg _ rfl call13 rfl (cStringsBuilderWriteString _ _ x741 X i m aa x743 l744 hcl745) ?_
 rintro _ b746 _ hle747 ⟨hs748, rfl, rfl, h749⟩
 refine t_in1 [] [_, _] hs748 ([(K, Cl 20 [Dyn.val 3 4 9 (Dyn.s (ByteArray.mk #[112, 108, 97, 105, 110])), Dyn.val 3 4 9 (Dyn.i a.Length), Dyn.val 3 4 9 (Dyn.i a.Grade), Dyn.val 3 4 9 (Dyn.i a.Speed), Dyn.val 3 4 9 (Dyn.i a.Station), Dyn.val 3 4 9 (Dyn.b a.Axles)])] ++ R) rfl<|Tn<|Xm<|Xm<|Xn<|Cg<|Ts rfl (sa rfl rfl (by omega))<|M rfl rfl<|Tn<|Xp 1 rfl ?_
 obtain rfl := o1 hm
 exact xS ⟨hs748, rfl, rfl, ((k.trans hle747)), h749⟩ (.cons_cons _ (.cons _ (sp hs748 (ss [(K, Cl 20 [Dyn.val 3 4 9 (Dyn.s (ByteArray.mk #[112, 108, 97, 105, 110])), Dyn.val 3 4 9 (Dyn.i a.Length), Dyn.val 3 4 9 (Dyn.i a.Grade), Dyn.val 3 4 9 (Dyn.i a.Speed), Dyn.val 3 4 9 (Dyn.i a.Station), Dyn.val 3 4 9 (Dyn.b a.Axles)])] (.refl _)))))
 rw [if_neg (of_decide_eq_false hc737)] at hm
 refine Cr<|Ts rfl (q1 rfl rfl)<|As rfl rfl<|Te ?_
 refine Cc _ rfl (fun hc750 => ?_) (fun hc750 => ?_)
 rw [if_pos (of_decide_eq_true hc750)] at hm
 refine Cg<|Ts rfl (st_mks (ti := 3) (tb := 4) rfl dys9)<|Ts rfl (sF rfl fld39_1)<|Ts rfl (sL 0 rfl one3 rfl rfl)<|Ts rfl (st_mki (tb := 4) (ts := 9) rfl dyi3)<|Ts rfl (sF rfl fld39_2)<|Ts rfl (sL 0 rfl one3 rfl rfl)<|Ts rfl (st_mki (tb := 4) (ts := 9) rfl dyi3)<|Ts rfl (sF rfl fld39_3)<|Ts rfl (sL 0 rfl one3 rfl rfl) ?_
 refine Ts rfl (st_mki (tb := 4) (ts := 9) rfl dyi3)<|Ts rfl (sF rfl fld39_4)<|Ts rfl (sL 0 rfl one3 rfl rfl)<|Ts rfl (st_mki (tb := 4) (ts := 9) rfl dyi3)<|Ts rfl (sF rfl fld39_6)<|Ts rfl (sL 0 rfl one4 rfl rfl)<|Ts rfl (st_mkb (ti := 3) (ts := 9) rfl dyb4)<|Do rfl (u_bslice (el := 20) [(0, Dyn.val 3 4 9 (Dyn.s (ByteArray.mk #[112, 111, 105, 110, 116, 115]))), (1, Dyn.val 3 4 9 (Dyn.i a.Length)), (2, Dyn.val 3 4 9 (Dyn.i a.Grade)), (3, Dyn.val 3 4 9 (Dyn.i a.Speed)), (4, Dyn.val 3 4 9 (Dyn.i a.Slow)), (5, Dyn.val 3 4 9 (Dyn.b a.Axles))] [Dyn.val 3 4 9 (Dyn.s (ByteArray.mk #[112, 111, 105, 110, 116, 115])), Dyn.val 3 4 9 (Dyn.i a.Length), Dyn.val 3 4 9 (Dyn.i a.Grade), Dyn.val 3 4 9 (Dyn.i a.Speed), Dyn.val 3 4 9 (Dyn.i a.Slow), Dyn.val 3 4 9 (Dyn.b a.Axles)] rfl (fun _ => by kernel_rfl)) ?_
 rintro _ _ ⟨L, rfl, rfl⟩
 refine t_seg 0 [_, _] (m ++ R) rfl rfl ?_
 have h753 : OS 20 (OT.fr (RT.dyn 3 4 9)) J.w (.slice (some ⟨L, 0, none⟩) 6 6) [(Dyn.s (ByteArray.mk #[112, 111, 105, 110, 116, 115])), (Dyn.i a.Length), (Dyn.i a.Grade), (Dyn.i a.Speed), (Dyn.i a.Slow), (Dyn.b a.Axles)] [(L, Cl 20 [Dyn.val 3 4 9 (Dyn.s (ByteArray.mk #[112, 111, 105, 110, 116, 115])), Dyn.val 3 4 9 (Dyn.i a.Length), Dyn.val 3 4 9 (Dyn.i a.Grade), Dyn.val 3 4 9 (Dyn.i a.Speed), Dyn.val 3 4 9 (Dyn.i a.Slow), Dyn.val 3 4 9 (Dyn.b a.Axles)])] := OS.lit [[Dyn.val 3 4 9 (Dyn.s (ByteArray.mk #[112, 111, 105, 110, 116, 115]))], [Dyn.val 3 4 9 (Dyn.i a.Length)], [Dyn.val 3 4 9 (Dyn.i a.Grade)], [Dyn.val 3 4 9 (Dyn.i a.Speed)], [Dyn.val 3 4 9 (Dyn.i a.Slow)], [Dyn.val 3 4 9 (Dyn.b a.Axles)]] rfl ⟨rfl, ⟨rfl, ⟨rfl, ⟨rfl, ⟨rfl, ⟨rfl, trivial⟩⟩⟩⟩⟩⟩ rfl (by decide)
 obtain ⟨x754, hcl755, hm⟩ := bS hm
 refine Do rfl (uW _ call14 rfl (fun w ho => cLineJoin _ [] ((hG.le (g.trans k)).old ho) [(Dyn.s (ByteArray.mk #[112, 111, 105, 110, 116, 115])), (Dyn.i a.Length), (Dyn.i a.Grade), (Dyn.i a.Speed), (Dyn.i a.Slow), (Dyn.b a.Axles)] (some ⟨L, 0, none⟩) 6 (OS.now (o := (OT.fr (RT.dyn 3 4 9))) (l := [(Dyn.s (ByteArray.mk #[112, 111, 105, 110, 116, 115])), (Dyn.i a.Length), (Dyn.i a.Grade), (Dyn.i a.Speed), (Dyn.i a.Slow), (Dyn.b a.Axles)]) (hs := [(L, Cl 20 [Dyn.val 3 4 9 (Dyn.s (ByteArray.mk #[112, 111, 105, 110, 116, 115])), Dyn.val 3 4 9 (Dyn.i a.Length), Dyn.val 3 4 9 (Dyn.i a.Grade), Dyn.val 3 4 9 (Dyn.i a.Speed), Dyn.val 3 4 9 (Dyn.i a.Slow), Dyn.val 3 4 9 (Dyn.b a.Axles)])]) h753 ho (.cons _ (.cons _ (List.sublist_append_left _ _)))) x754 hcl755) (fun _ _ _ h => h.2.symm)) ?_
 rintro _ _ ⟨⟨_, rfl, _⟩, rfl⟩
 obtain ⟨⟨x756, l757⟩, hcl758, hm⟩ := bS hm
 have hm := (unc2E hm)
 refine t_front2 [_, _] [(L, Cl 20 [Dyn.val 3 4 9 (Dyn.s (ByteArray.mk #[112, 111, 105, 110, 116, 115])), Dyn.val 3 4 9 (Dyn.i a.Length), Dyn.val 3 4 9 (Dyn.i a.Grade), Dyn.val 3 4 9 (Dyn.i a.Speed), Dyn.val 3 4 9 (Dyn.i a.Slow), Dyn.val 3 4 9 (Dyn.b a.Axles)])] m R rfl<|t_out1 [] [_, _] m ([(L, Cl 20 [Dyn.val 3 4 9 (Dyn.s (ByteArray.mk #[112, 111, 105, 110, 116, 115])), Dyn.val 3 4 9 (Dyn.i a.Length), Dyn.val 3 4 9 (Dyn.i a.Grade), Dyn.val 3 4 9 (Dyn.i a.Speed), Dyn.val 3 4 9 (Dyn.i a.Slow), Dyn.val 3 4 9 (Dyn.b a.Axles)])] ++ R) rfl<|Tg _ rfl call13 rfl (cStringsBuilderWriteString _ _ x754 X i m aa x756 l757 hcl758) ?_
 rintro _ b759 _ hle760 ⟨hs761, rfl, rfl, h762⟩
 refine t_in1 [] [_, _] hs761 ([(L, Cl 20 [Dyn.val 3 4 9 (Dyn.s (ByteArray.mk #[112, 111, 105, 110, 116, 115])), Dyn.val 3 4 9 (Dyn.i a.Length), Dyn.val 3 4 9 (Dyn.i a.Grade), Dyn.val 3 4 9 (Dyn.i a.Speed), Dyn.val 3 4 9 (Dyn.i a.Slow), Dyn.val 3 4 9 (Dyn.b a.Axles)])] ++ R) rfl<|Tn<|Xm<|Xm<|Xn<|Cg<|Ts rfl (sa rfl rfl (by omega))<|M rfl rfl<|Tn<|Xp 1 rfl ?_
 obtain rfl := o1 hm
 exact xS ⟨hs761, rfl, rfl, ((k.trans hle760)), h762⟩ (.cons_cons _ (.cons _ (sp hs761 (ss [(L, Cl 20 [Dyn.val 3 4 9 (Dyn.s (ByteArray.mk #[112, 111, 105, 110, 116, 115])), Dyn.val 3 4 9 (Dyn.i a.Length), Dyn.val 3 4 9 (Dyn.i a.Grade), Dyn.val 3 4 9 (Dyn.i a.Speed), Dyn.val 3 4 9 (Dyn.i a.Slow), Dyn.val 3 4 9 (Dyn.b a.Axles)])] (.refl _)))))
 rw [if_neg (of_decide_eq_false hc750)] at hm
 refine Cg<|Ts rfl (st_mks (ti := 3) (tb := 4) rfl dys9)<|Ts rfl (sF rfl fld39_1)<|Ts rfl (sL 0 rfl one3 rfl rfl)<|Ts rfl (st_mki (tb := 4) (ts := 9) rfl dyi3)<|Ts rfl (sF rfl fld39_3)<|Ts rfl (sL 0 rfl one3 rfl rfl)<|Ts rfl (st_mki (tb := 4) (ts := 9) rfl dyi3)<|Ts rfl (sF rfl fld39_6)<|Ts rfl (sL 0 rfl one4 rfl rfl) ?_
 refine Ts rfl (st_mkb (ti := 3) (ts := 9) rfl dyb4)<|Do rfl (u_bslice (el := 20) [(0, Dyn.val 3 4 9 (Dyn.s (ByteArray.mk #[99, 114, 111, 115, 115]))), (1, Dyn.val 3 4 9 (Dyn.i a.Length)), (2, Dyn.val 3 4 9 (Dyn.i a.Speed)), (3, Dyn.val 3 4 9 (Dyn.b a.Axles))] [Dyn.val 3 4 9 (Dyn.s (ByteArray.mk #[99, 114, 111, 115, 115])), Dyn.val 3 4 9 (Dyn.i a.Length), Dyn.val 3 4 9 (Dyn.i a.Speed), Dyn.val 3 4 9 (Dyn.b a.Axles)] rfl (fun _ => by kernel_rfl)) ?_
 rintro _ _ ⟨O, rfl, rfl⟩
 refine t_seg 0 [_, _] (m ++ R) rfl rfl ?_
 have h765 : OS 20 (OT.fr (RT.dyn 3 4 9)) J.w (.slice (some ⟨O, 0, none⟩) 4 4) [(Dyn.s (ByteArray.mk #[99, 114, 111, 115, 115])), (Dyn.i a.Length), (Dyn.i a.Speed), (Dyn.b a.Axles)] [(O, Cl 20 [Dyn.val 3 4 9 (Dyn.s (ByteArray.mk #[99, 114, 111, 115, 115])), Dyn.val 3 4 9 (Dyn.i a.Length), Dyn.val 3 4 9 (Dyn.i a.Speed), Dyn.val 3 4 9 (Dyn.b a.Axles)])] := OS.lit [[Dyn.val 3 4 9 (Dyn.s (ByteArray.mk #[99, 114, 111, 115, 115]))], [Dyn.val 3 4 9 (Dyn.i a.Length)], [Dyn.val 3 4 9 (Dyn.i a.Speed)], [Dyn.val 3 4 9 (Dyn.b a.Axles)]] rfl ⟨rfl, ⟨rfl, ⟨rfl, ⟨rfl, trivial⟩⟩⟩⟩ rfl (by decide)
 obtain ⟨x766, hcl767, hm⟩ := bS hm
 refine Do rfl (uW _ call14 rfl (fun w ho => cLineJoin _ [] ((hG.le (g.trans k)).old ho) [(Dyn.s (ByteArray.mk #[99, 114, 111, 115, 115])), (Dyn.i a.Length), (Dyn.i a.Speed), (Dyn.b a.Axles)] (some ⟨O, 0, none⟩) 4 (OS.now (o := (OT.fr (RT.dyn 3 4 9))) (l := [(Dyn.s (ByteArray.mk #[99, 114, 111, 115, 115])), (Dyn.i a.Length), (Dyn.i a.Speed), (Dyn.b a.Axles)]) (hs := [(O, Cl 20 [Dyn.val 3 4 9 (Dyn.s (ByteArray.mk #[99, 114, 111, 115, 115])), Dyn.val 3 4 9 (Dyn.i a.Length), Dyn.val 3 4 9 (Dyn.i a.Speed), Dyn.val 3 4 9 (Dyn.b a.Axles)])]) h765 ho (.cons _ (.cons _ (List.sublist_append_left _ _)))) x766 hcl767) (fun _ _ _ h => h.2.symm)) ?_
 rintro _ _ ⟨⟨_, rfl, _⟩, rfl⟩
 obtain ⟨⟨x768, l769⟩, hcl770, hm⟩ := bS hm
 have hm := (unc2E hm)
 refine t_front2 [_, _] [(O, Cl 20 [Dyn.val 3 4 9 (Dyn.s (ByteArray.mk #[99, 114, 111, 115, 115])), Dyn.val 3 4 9 (Dyn.i a.Length), Dyn.val 3 4 9 (Dyn.i a.Speed), Dyn.val 3 4 9 (Dyn.b a.Axles)])] m R rfl<|t_out1 [] [_, _] m ([(O, Cl 20 [Dyn.val 3 4 9 (Dyn.s (ByteArray.mk #[99, 114, 111, 115, 115])), Dyn.val 3 4 9 (Dyn.i a.Length), Dyn.val 3 4 9 (Dyn.i a.Speed), Dyn.val 3 4 9 (Dyn.b a.Axles)])] ++ R) rfl<|Tg _ rfl call13 rfl (cStringsBuilderWriteString _ _ x766 X i m aa x768 l769 hcl770) ?_
 rintro _ b771 _ hle772 ⟨hs773, rfl, rfl, h774⟩
 refine t_in1 [] [_, _] hs773 ([(O, Cl 20 [Dyn.val 3 4 9 (Dyn.s (ByteArray.mk #[99, 114, 111, 115, 115])), Dyn.val 3 4 9 (Dyn.i a.Length), Dyn.val 3 4 9 (Dyn.i a.Speed), Dyn.val 3 4 9 (Dyn.b a.Axles)])] ++ R) rfl<|Tn<|Xm<|Xm<|Xn<|Cg<|Ts rfl (sa rfl rfl (by omega))<|M rfl rfl<|Tn<|Xp 1 rfl ?_
 obtain rfl := o1 hm
 exact xS ⟨hs773, rfl, rfl, ((k.trans hle772)), h774⟩ (.cons_cons _ (.cons _ (sp hs773 (ss [(O, Cl 20 [Dyn.val 3 4 9 (Dyn.s (ByteArray.mk #[99, 114, 111, 115, 115])), Dyn.val 3 4 9 (Dyn.i a.Length), Dyn.val 3 4 9 (Dyn.i a.Speed), Dyn.val 3 4 9 (Dyn.b a.Axles)])] (.refl _)))))
 rintro J _ _ ⟨m, rfl, rfl, k, aa⟩
 have hm := hk725
 refine Cr<|Ts rfl (lF rfl rfl (by omega))<|Te<|Cs<|c_cond_f rfl<|Ce<|Xe<|Xe<|Xo<|Xn ?_
 refine Cs<|Cr<|Ts rfl (sF rfl fld28_2)<|Ts rfl (sL 0 rfl one24 rfl rfl)<|Ts rfl (sE rfl sl24)<|M rfl rfl<|Te<|Cb ?_
 have hb776 : d.Links.length ≤ 9223372036854775807 := (FZ.bd (h10.le (g.trans k)))
 obtain ⟨af, hl834, hk835⟩ := bS hm
 refine cS (fun k833 => fun af => fun Y e' hp' => ∃ (s : Hp), [(1, pb H), (5, pb i), (101, sv B d.Links C), (102, iv ((d.Links.length : Int))), (103, iv ((k833 : Int)))] = e' ∧ (H, Cl 28 [sv x d.Stations y, sv z d.Sections A, sv B d.Links C, sv D d.Signals E, sv F d.Gates G]) :: (s ++ R) = hp' ∧ J.Le Y ∧ OB 53 5 Y.w i af s) hl834 ⟨m, rfl, rfl, lr, aa⟩ (.refl _) ?_ ?_
 rintro k833 af Y _ _ oL775 hknL775 ⟨s, rfl, rfl, p, h831⟩ hstepL775
 unfold mLineText_L775 at hstepL775
 have hm := hstepL775
 refine Cr<|Ts rfl (lT rfl rfl (by omega))<|Te<|Cs<|c_cond_t rfl<|Ck<|Xn<|Cs<|Cb<|Cr ?_
 obtain ⟨c, h837, hm⟩ := bS hm
 obtain ⟨j838, hj839, hx840⟩ := iS h837
 obtain ⟨cs841, hr842, hcs843, hA844, hlt845⟩ := FZ.get (sz := 4) rfl (by decide) (h10.le (g.trans (k.trans p))) hx840
 obtain ⟨_, _, rfl, rfl, ⟨_, _, rfl, rfl, ⟨_, _, rfl, rfl, rfl⟩⟩⟩ := hr842
 refine Ts rfl (sI j838 rfl rfl hj839 hlt845 hA844 sl24)<|Ts rfl (sP (vs := [iv c.A, iv c.EndA, iv c.B, iv c.EndB]) 4 rfl agg42 hA844 rfl (fun j u hu => hcs843 j u hu))<|Do rfl (uA [iv 0, iv 0, iv 0, iv 0] zero42 rfl) ?_
 rintro _ _ ⟨g846, rfl, rfl⟩
 refine Do rfl (uN (vs := [_, _, _, _]) 0 4 rfl rfl rfl siz42 rfl (mc rfl (mc rfl (mc rfl (mc rfl mn)))) rfl (by simp)) ?_
 rintro _ _ rfl
 refine Te<|Cg<|Ts rfl (st_mks (ti := 3) (tb := 4) rfl dys9)<|Ts rfl (sF rfl fld42_0)<|Ts rfl (sL 0 rfl one3 rfl rfl)<|Ts rfl (st_mki (tb := 4) (ts := 9) rfl dyi3)<|Ts rfl (sF rfl fld42_1)<|Ts rfl (sL 0 rfl one3 rfl rfl)<|Ts rfl (st_mki (tb := 4) (ts := 9) rfl dyi3)<|Ts rfl (sF rfl fld42_2) ?_
 refine Ts rfl (sL 0 rfl one3 rfl rfl)<|Ts rfl (st_mki (tb := 4) (ts := 9) rfl dyi3)<|Ts rfl (sF rfl fld42_3)<|Ts rfl (sL 0 rfl one3 rfl rfl)<|Ts rfl (st_mki (tb := 4) (ts := 9) rfl dyi3)<|Do rfl (u_bslice (el := 20) [(0, Dyn.val 3 4 9 (Dyn.s (ByteArray.mk #[108, 105, 110, 107]))), (1, Dyn.val 3 4 9 (Dyn.i c.A)), (2, Dyn.val 3 4 9 (Dyn.i c.EndA)), (3, Dyn.val 3 4 9 (Dyn.i c.B)), (4, Dyn.val 3 4 9 (Dyn.i c.EndB))] [Dyn.val 3 4 9 (Dyn.s (ByteArray.mk #[108, 105, 110, 107])), Dyn.val 3 4 9 (Dyn.i c.A), Dyn.val 3 4 9 (Dyn.i c.EndA), Dyn.val 3 4 9 (Dyn.i c.B), Dyn.val 3 4 9 (Dyn.i c.EndB)] rfl (fun _ => by kernel_rfl)) ?_
 rintro _ _ ⟨S, rfl, rfl⟩
 refine t_seg 0 [_, _] (s ++ R) rfl rfl ?_
 have h849 : OS 20 (OT.fr (RT.dyn 3 4 9)) Y.w (.slice (some ⟨S, 0, none⟩) 5 5) [(Dyn.s (ByteArray.mk #[108, 105, 110, 107])), (Dyn.i c.A), (Dyn.i c.EndA), (Dyn.i c.B), (Dyn.i c.EndB)] [(S, Cl 20 [Dyn.val 3 4 9 (Dyn.s (ByteArray.mk #[108, 105, 110, 107])), Dyn.val 3 4 9 (Dyn.i c.A), Dyn.val 3 4 9 (Dyn.i c.EndA), Dyn.val 3 4 9 (Dyn.i c.B), Dyn.val 3 4 9 (Dyn.i c.EndB)])] := OS.lit [[Dyn.val 3 4 9 (Dyn.s (ByteArray.mk #[108, 105, 110, 107]))], [Dyn.val 3 4 9 (Dyn.i c.A)], [Dyn.val 3 4 9 (Dyn.i c.EndA)], [Dyn.val 3 4 9 (Dyn.i c.B)], [Dyn.val 3 4 9 (Dyn.i c.EndB)]] rfl ⟨rfl, ⟨rfl, ⟨rfl, ⟨rfl, ⟨rfl, trivial⟩⟩⟩⟩⟩ rfl (by decide)
 obtain ⟨x850, hcl851, hm⟩ := bS hm
 refine Do rfl (uW _ call14 rfl (fun w ho => cLineJoin _ [] ((hG.le (g.trans (k.trans p))).old ho) [(Dyn.s (ByteArray.mk #[108, 105, 110, 107])), (Dyn.i c.A), (Dyn.i c.EndA), (Dyn.i c.B), (Dyn.i c.EndB)] (some ⟨S, 0, none⟩) 5 (OS.now (o := (OT.fr (RT.dyn 3 4 9))) (l := [(Dyn.s (ByteArray.mk #[108, 105, 110, 107])), (Dyn.i c.A), (Dyn.i c.EndA), (Dyn.i c.B), (Dyn.i c.EndB)]) (hs := [(S, Cl 20 [Dyn.val 3 4 9 (Dyn.s (ByteArray.mk #[108, 105, 110, 107])), Dyn.val 3 4 9 (Dyn.i c.A), Dyn.val 3 4 9 (Dyn.i c.EndA), Dyn.val 3 4 9 (Dyn.i c.B), Dyn.val 3 4 9 (Dyn.i c.EndB)])]) h849 ho (.cons _ (.cons _ (List.sublist_append_left _ _)))) x850 hcl851) (fun _ _ _ h => h.2.symm)) ?_
 rintro _ _ ⟨⟨_, rfl, _⟩, rfl⟩
 obtain ⟨⟨x852, l853⟩, hcl854, hm⟩ := bS hm
 have hm := (unc2E hm)
 refine t_front2 [_, _] [(S, Cl 20 [Dyn.val 3 4 9 (Dyn.s (ByteArray.mk #[108, 105, 110, 107])), Dyn.val 3 4 9 (Dyn.i c.A), Dyn.val 3 4 9 (Dyn.i c.EndA), Dyn.val 3 4 9 (Dyn.i c.B), Dyn.val 3 4 9 (Dyn.i c.EndB)])] s R rfl<|t_out1 [] [_, _] s ([(S, Cl 20 [Dyn.val 3 4 9 (Dyn.s (ByteArray.mk #[108, 105, 110, 107])), Dyn.val 3 4 9 (Dyn.i c.A), Dyn.val 3 4 9 (Dyn.i c.EndA), Dyn.val 3 4 9 (Dyn.i c.B), Dyn.val 3 4 9 (Dyn.i c.EndB)])] ++ R) rfl<|Tg _ rfl call13 rfl (cStringsBuilderWriteString _ _ x850 af i s h831 x852 l853 hcl854) ?_
 rintro _ b855 _ hle856 ⟨hs857, rfl, rfl, h858⟩
 refine t_in1 [] [_, _] hs857 ([(S, Cl 20 [Dyn.val 3 4 9 (Dyn.s (ByteArray.mk #[108, 105, 110, 107])), Dyn.val 3 4 9 (Dyn.i c.A), Dyn.val 3 4 9 (Dyn.i c.EndA), Dyn.val 3 4 9 (Dyn.i c.B), Dyn.val 3 4 9 (Dyn.i c.EndB)])] ++ R) rfl<|Tn<|Xm<|Xn<|Cg<|Ts rfl (sa rfl rfl (by omega))<|M rfl rfl<|Tn<|Xp 1 rfl ?_
 obtain rfl := o1 hm
 exact xS ⟨hs857, rfl, rfl, ((p.trans hle856)), h858⟩ (.cons_cons _ (.cons _ (sp hs857 (ss [(S, Cl 20 [Dyn.val 3 4 9 (Dyn.s (ByteArray.mk #[108, 105, 110, 107])), Dyn.val 3 4 9 (Dyn.i c.A), Dyn.val 3 4 9 (Dyn.i c.EndA), Dyn.val 3 4 9 (Dyn.i c.B), Dyn.val 3 4 9 (Dyn.i c.EndB)])] (.refl _)))))
 rintro Y _ _ ⟨s, rfl, rfl, p, h831⟩
 have hm := hk835
 refine Cr<|Ts rfl (lF rfl rfl (by omega))<|Te<|Cs<|c_cond_f rfl<|Ce<|Xe<|Xe<|Xo<|Xn ?_
 refine Cs<|Cr<|Ts rfl (sF rfl fld28_3)<|Ts rfl (sL 0 rfl one25 rfl rfl)<|Ts rfl (sE rfl sl25)<|M rfl rfl<|Te<|Cb ?_
 have hb860 : d.Signals.length ≤ 9223372036854775807 := (FZ.bd (h13.le (g.trans (k.trans p))))
 obtain ⟨ag, hl918, hk919⟩ := bS hm
 refine cS (fun k917 => fun ag => fun Z e' hp' => ∃ (t : Hp), [(1, pb H), (5, pb i), (125, sv D d.Signals E), (126, iv ((d.Signals.length : Int))), (127, iv ((k917 : Int)))] = e' ∧ (H, Cl 28 [sv x d.Stations y, sv z d.Sections A, sv B d.Links C, sv D d.Signals E, sv F d.Gates G]) :: (t ++ R) = hp' ∧ Y.Le Z ∧ OB 53 5 Z.w i ag t) hl918 ⟨s, rfl, rfl, lr, h831⟩ (.refl _) ?_ ?_
 rintro k917 ag Z _ _ oL859 hknL859 ⟨t, rfl, rfl, T, h915⟩ hstepL859
 unfold mLineText_L859 at hstepL859
 have hm := hstepL859
 refine Cr<|Ts rfl (lT rfl rfl (by omega))<|Te<|Cs<|c_cond_t rfl<|Ck<|Xn<|Cs<|Cb<|Cr ?_
 obtain ⟨e, h921, hm⟩ := bS hm
 obtain ⟨j922, hj923, hx924⟩ := iS h921
 obtain ⟨cs925, hr926, hcs927, hA928, hlt929⟩ := FZ.get (sz := 2) rfl (by decide) (h13.le (g.trans (k.trans (p.trans T)))) hx924
 obtain ⟨_, _, rfl, rfl, rfl⟩ := hr926
 refine Ts rfl (sI j922 rfl rfl hj923 hlt929 hA928 sl25)<|Ts rfl (sP (vs := [iv e.Section, iv e.End]) 2 rfl agg45 hA928 rfl (fun j u hu => hcs927 j u hu))<|Do rfl (uA [iv 0, iv 0] zero45 rfl) ?_
 rintro _ _ ⟨g930, rfl, rfl⟩
 refine Do rfl (uN (vs := [_, _]) 0 2 rfl rfl rfl siz45 rfl (mc rfl (mc rfl mn)) rfl (by simp)) ?_
 rintro _ _ rfl
 refine Te<|Cg<|Ts rfl (st_mks (ti := 3) (tb := 4) rfl dys9)<|Ts rfl (sF rfl fld45_0)<|Ts rfl (sL 0 rfl one3 rfl rfl)<|Ts rfl (st_mki (tb := 4) (ts := 9) rfl dyi3)<|Ts rfl (sF rfl fld45_1)<|Ts rfl (sL 0 rfl one3 rfl rfl)<|Ts rfl (st_mki (tb := 4) (ts := 9) rfl dyi3)<|Do rfl (u_bslice (el := 20) [(0, Dyn.val 3 4 9 (Dyn.s (ByteArray.mk #[115, 105, 103, 110, 97, 108]))), (1, Dyn.val 3 4 9 (Dyn.i e.Section)), (2, Dyn.val 3 4 9 (Dyn.i e.End))] [Dyn.val 3 4 9 (Dyn.s (ByteArray.mk #[115, 105, 103, 110, 97, 108])), Dyn.val 3 4 9 (Dyn.i e.Section), Dyn.val 3 4 9 (Dyn.i e.End)] rfl (fun _ => by kernel_rfl)) ?_
 rintro _ _ ⟨U, rfl, rfl⟩
 refine t_seg 0 [_, _] (t ++ R) rfl rfl ?_
 have h933 : OS 20 (OT.fr (RT.dyn 3 4 9)) Z.w (.slice (some ⟨U, 0, none⟩) 3 3) [(Dyn.s (ByteArray.mk #[115, 105, 103, 110, 97, 108])), (Dyn.i e.Section), (Dyn.i e.End)] [(U, Cl 20 [Dyn.val 3 4 9 (Dyn.s (ByteArray.mk #[115, 105, 103, 110, 97, 108])), Dyn.val 3 4 9 (Dyn.i e.Section), Dyn.val 3 4 9 (Dyn.i e.End)])] := OS.lit [[Dyn.val 3 4 9 (Dyn.s (ByteArray.mk #[115, 105, 103, 110, 97, 108]))], [Dyn.val 3 4 9 (Dyn.i e.Section)], [Dyn.val 3 4 9 (Dyn.i e.End)]] rfl ⟨rfl, ⟨rfl, ⟨rfl, trivial⟩⟩⟩ rfl (by decide)
 obtain ⟨x934, hcl935, hm⟩ := bS hm
 refine Do rfl (uW _ call14 rfl (fun w ho => cLineJoin _ [] ((hG.le (g.trans (k.trans (p.trans T)))).old ho) [(Dyn.s (ByteArray.mk #[115, 105, 103, 110, 97, 108])), (Dyn.i e.Section), (Dyn.i e.End)] (some ⟨U, 0, none⟩) 3 (OS.now (o := (OT.fr (RT.dyn 3 4 9))) (l := [(Dyn.s (ByteArray.mk #[115, 105, 103, 110, 97, 108])), (Dyn.i e.Section), (Dyn.i e.End)]) (hs := [(U, Cl 20 [Dyn.val 3 4 9 (Dyn.s (ByteArray.mk #[115, 105, 103, 110, 97, 108])), Dyn.val 3 4 9 (Dyn.i e.Section), Dyn.val 3 4 9 (Dyn.i e.End)])]) h933 ho (.cons _ (.cons _ (List.sublist_append_left _ _)))) x934 hcl935) (fun _ _ _ h => h.2.symm)) ?_
 rintro _ _ ⟨⟨_, rfl, _⟩, rfl⟩
 obtain ⟨⟨x936, l937⟩, hcl938, hm⟩ := bS hm
 have hm := (unc2E hm)
 refine t_front2 [_, _] [(U, Cl 20 [Dyn.val 3 4 9 (Dyn.s (ByteArray.mk #[115, 105, 103, 110, 97, 108])), Dyn.val 3 4 9 (Dyn.i e.Section), Dyn.val 3 4 9 (Dyn.i e.End)])] t R rfl<|t_out1 [] [_, _] t ([(U, Cl 20 [Dyn.val 3 4 9 (Dyn.s (ByteArray.mk #[115, 105, 103, 110, 97, 108])), Dyn.val 3 4 9 (Dyn.i e.Section), Dyn.val 3 4 9 (Dyn.i e.End)])] ++ R) rfl<|Tg _ rfl call13 rfl (cStringsBuilderWriteString _ _ x934 ag i t h915 x936 l937 hcl938) ?_
 rintro _ b939 _ hle940 ⟨hs941, rfl, rfl, h942⟩
 refine t_in1 [] [_, _] hs941 ([(U, Cl 20 [Dyn.val 3 4 9 (Dyn.s (ByteArray.mk #[115, 105, 103, 110, 97, 108])), Dyn.val 3 4 9 (Dyn.i e.Section), Dyn.val 3 4 9 (Dyn.i e.End)])] ++ R) rfl<|Tn<|Xm<|Xn<|Cg<|Ts rfl (sa rfl rfl (by omega))<|M rfl rfl<|Tn<|Xp 1 rfl ?_
 obtain rfl := o1 hm
 exact xS ⟨hs941, rfl, rfl, ((T.trans hle940)), h942⟩ (.cons_cons _ (.cons _ (sp hs941 (ss [(U, Cl 20 [Dyn.val 3 4 9 (Dyn.s (ByteArray.mk #[115, 105, 103, 110, 97, 108])), Dyn.val 3 4 9 (Dyn.i e.Section), Dyn.val 3 4 9 (Dyn.i e.End)])] (.refl _)))))
 rintro Z _ _ ⟨t, rfl, rfl, T, h915⟩
 have hm := hk919
 refine Cr<|Ts rfl (lF rfl rfl (by omega))<|Te<|Cs<|c_cond_f rfl<|Ce<|Xe<|Xe<|Xo<|Xn ?_
 refine Cs<|Cr<|Ts rfl (sF rfl fld28_4)<|Ts rfl (sL 0 rfl one26 rfl rfl)<|Ts rfl (sE rfl sl26)<|M rfl rfl<|Te<|Cb ?_
 have hb944 : d.Gates.length ≤ 9223372036854775807 := (FZ.bd (h16.le (g.trans (k.trans (p.trans T)))))
 obtain ⟨ab, hl1002, hk1003⟩ := bS hm
 refine cS (fun k1001 => fun ab => fun ac e' hp' => ∃ (q : Hp), [(5, pb i), (143, sv F d.Gates G), (144, iv ((d.Gates.length : Int))), (145, iv ((k1001 : Int)))] = e' ∧ (q ++ R) = hp' ∧ Z.Le ac ∧ OB 53 5 ac.w i ab q) hl1002 ⟨t, rfl, rfl, lr, h915⟩ (.cons _ (.refl _)) ?_ ?_
 rintro k1001 ab ac _ _ oL943 hknL943 ⟨q, rfl, rfl, ad, h999⟩ hstepL943
 unfold mLineText_L943 at hstepL943
 have hm := hstepL943
 refine Cr<|Ts rfl (lT rfl rfl (by omega))<|Te<|Cs<|c_cond_t rfl<|Ck<|Xn<|Cs<|Cb<|Cr ?_
 obtain ⟨f, h1005, hm⟩ := bS hm
 obtain ⟨j1006, hj1007, hx1008⟩ := iS h1005
 obtain ⟨cs1009, hr1010, hcs1011, hA1012, hlt1013⟩ := FZ.get (sz := 2) rfl (by decide) (h16.le (g.trans (k.trans (p.trans (T.trans ad))))) hx1008
 obtain ⟨_, _, rfl, rfl, rfl⟩ := hr1010
 refine Ts rfl (sI j1006 rfl rfl hj1007 hlt1013 hA1012 sl26)<|Ts rfl (sP (vs := [iv f.Section, iv f.Close]) 2 rfl agg48 hA1012 rfl (fun j u hu => hcs1011 j u hu))<|Do rfl (uA [iv 0, iv 0] zero48 rfl) ?_
 rintro _ _ ⟨g1014, rfl, rfl⟩
 refine Do rfl (uN (vs := [_, _]) 0 2 rfl rfl rfl siz48 rfl (mc rfl (mc rfl mn)) rfl (by simp)) ?_
 rintro _ _ rfl
 refine Te<|Cg<|Ts rfl (st_mks (ti := 3) (tb := 4) rfl dys9)<|Ts rfl (sF rfl fld48_0)<|Ts rfl (sL 0 rfl one3 rfl rfl)<|Ts rfl (st_mki (tb := 4) (ts := 9) rfl dyi3)<|Ts rfl (sF rfl fld48_1)<|Ts rfl (sL 0 rfl one3 rfl rfl)<|Ts rfl (st_mki (tb := 4) (ts := 9) rfl dyi3)<|Do rfl (u_bslice (el := 20) [(0, Dyn.val 3 4 9 (Dyn.s (ByteArray.mk #[103, 97, 116, 101]))), (1, Dyn.val 3 4 9 (Dyn.i f.Section)), (2, Dyn.val 3 4 9 (Dyn.i f.Close))] [Dyn.val 3 4 9 (Dyn.s (ByteArray.mk #[103, 97, 116, 101])), Dyn.val 3 4 9 (Dyn.i f.Section), Dyn.val 3 4 9 (Dyn.i f.Close)] rfl (fun _ => by kernel_rfl)) ?_
 rintro _ _ ⟨V, rfl, rfl⟩
 refine t_seg 0 [_] (q ++ R) rfl rfl ?_
 have h1017 : OS 20 (OT.fr (RT.dyn 3 4 9)) ac.w (.slice (some ⟨V, 0, none⟩) 3 3) [(Dyn.s (ByteArray.mk #[103, 97, 116, 101])), (Dyn.i f.Section), (Dyn.i f.Close)] [(V, Cl 20 [Dyn.val 3 4 9 (Dyn.s (ByteArray.mk #[103, 97, 116, 101])), Dyn.val 3 4 9 (Dyn.i f.Section), Dyn.val 3 4 9 (Dyn.i f.Close)])] := OS.lit [[Dyn.val 3 4 9 (Dyn.s (ByteArray.mk #[103, 97, 116, 101]))], [Dyn.val 3 4 9 (Dyn.i f.Section)], [Dyn.val 3 4 9 (Dyn.i f.Close)]] rfl ⟨rfl, ⟨rfl, ⟨rfl, trivial⟩⟩⟩ rfl (by decide)
 obtain ⟨x1018, hcl1019, hm⟩ := bS hm
 refine Do rfl (uW _ call14 rfl (fun w ho => cLineJoin _ [] ((hG.le (g.trans (k.trans (p.trans (T.trans ad))))).old ho) [(Dyn.s (ByteArray.mk #[103, 97, 116, 101])), (Dyn.i f.Section), (Dyn.i f.Close)] (some ⟨V, 0, none⟩) 3 (OS.now (o := (OT.fr (RT.dyn 3 4 9))) (l := [(Dyn.s (ByteArray.mk #[103, 97, 116, 101])), (Dyn.i f.Section), (Dyn.i f.Close)]) (hs := [(V, Cl 20 [Dyn.val 3 4 9 (Dyn.s (ByteArray.mk #[103, 97, 116, 101])), Dyn.val 3 4 9 (Dyn.i f.Section), Dyn.val 3 4 9 (Dyn.i f.Close)])]) h1017 ho (.cons _ (List.sublist_append_left _ _))) x1018 hcl1019) (fun _ _ _ h => h.2.symm)) ?_
 rintro _ _ ⟨⟨_, rfl, _⟩, rfl⟩
 obtain ⟨⟨x1020, l1021⟩, hcl1022, hm⟩ := bS hm
 have hm := (unc2E hm)
 refine t_front2 [_] [(V, Cl 20 [Dyn.val 3 4 9 (Dyn.s (ByteArray.mk #[103, 97, 116, 101])), Dyn.val 3 4 9 (Dyn.i f.Section), Dyn.val 3 4 9 (Dyn.i f.Close)])] q R rfl<|t_out1 [] [_] q ([(V, Cl 20 [Dyn.val 3 4 9 (Dyn.s (ByteArray.mk #[103, 97, 116, 101])), Dyn.val 3 4 9 (Dyn.i f.Section), Dyn.val 3 4 9 (Dyn.i f.Close)])] ++ R) rfl<|Tg _ rfl call13 rfl (cStringsBuilderWriteString _ _ x1018 ab i q h999 x1020 l1021 hcl1022) ?_
 rintro _ b1023 _ hle1024 ⟨hs1025, rfl, rfl, h1026⟩
 refine t_in1 [] [_] hs1025 ([(V, Cl 20 [Dyn.val 3 4 9 (Dyn.s (ByteArray.mk #[103, 97, 116, 101])), Dyn.val 3 4 9 (Dyn.i f.Section), Dyn.val 3 4 9 (Dyn.i f.Close)])] ++ R) rfl<|Tn<|Xm<|Xn<|Cg<|Ts rfl (sa rfl rfl (by omega))<|M rfl rfl<|Tn ?_
 obtain rfl := o1 hm
 exact xS ⟨hs1025, rfl, rfl, ((ad.trans hle1024)), h1026⟩ (.cons _ (sp hs1025 (ss [(V, Cl 20 [Dyn.val 3 4 9 (Dyn.s (ByteArray.mk #[103, 97, 116, 101])), Dyn.val 3 4 9 (Dyn.i f.Section), Dyn.val 3 4 9 (Dyn.i f.Close)])] (.refl _))))
 rintro ac _ _ ⟨q, rfl, rfl, ad, h999⟩
 have hm := hk1003
 refine Cr<|Ts rfl (lF rfl rfl (by omega))<|Te<|Cs<|c_cond_f rfl<|Ce<|Xe<|Xe<|Xo<|Xn ?_
 refine Cr ?_
 obtain ⟨x1027, hcl1028, hm⟩ := bS hm
 refine t_out1 [] [] q R rfl<|Tg _ rfl call15 rfl (cStringsBuilderString _ _ ab i q h999 x1027 hcl1028) ?_
 rintro _ b1029 _ hle1030 ⟨rfl, rfl⟩
 refine As rfl rfl<|As rfl rfl<|Te<|Ct ?_
 obtain ⟨rfl, rfl⟩ := some2 hm
 exact rM (rs := [.tmp 2, .tmp 3]) (vs := [.string (x1027), iv 0]) ⟨rfl, ⟨rfl, trivial⟩⟩ ⟨rfl, rfl⟩ (.refl _) (g.trans (k.trans (p.trans (T.trans (ad.trans hle1030)))))

set_option maxRecDepth 20000 in
theorem cSlicesEqual (b : Base) (R : Hp) (a : (List ByteArray)) (d : (List ByteArray)) (f : OA) (g : Nat) (h : OA) (i : Nat) (m : FZ RT.str b.w f g a) (q : FZ RT.str b.w h i d) (n : Bool) (hm : mSlicesEqual a d = some n) :
    CallsG Tryd.prog 8 [sv f a g, sv h d i] b (R) (fun v b' hp' => bv n = v ∧ R = hp') := by
 refine fE 26 Tryd.func8 rfl Tryd.ntmps8 rfl ?_
 unfold mSlicesEqual at hm
 refine Cr<|As rfl rfl<|Te<|Cs<|Cr<|M rfl rfl<|Ts rfl (sE rfl sl22)<|M rfl rfl<|Ts rfl (sE rfl sl22)<|Ts rfl (q2 rfl rfl) ?_
 refine Te ?_
 refine Cc _ rfl (fun j => ?_) (fun j => ?_)
 rw [if_pos (of_decide_eq_true j)] at hm
 refine Cr<|As rfl rfl<|Te<|Ct<|Xr ?_
 obtain rfl := o1 hm
 exact rM (rs := [.tmp 4]) (vs := [bv false]) ⟨rfl, trivial⟩ ⟨rfl, rfl⟩ (.refl _) lr
 rw [if_neg (of_decide_eq_false j)] at hm
 refine Ck<|Xn<|Cs<|Cr<|M rfl rfl<|Ts rfl (sE rfl sl22)<|M rfl rfl<|Te<|Cb ?_
 have O : a.length ≤ 9223372036854775807 := (FZ.bd m)
 obtain ⟨S, r, e⟩ := bS hm
 refine cF (fun o => fun _ => fun k e' hp' => [(0, sv f a g), (1, sv h d i), (12, iv ((a.length : Int))), (13, iv ((o : Int)))] = e' ∧ R = hp' ∧ b.Le k) r ⟨rfl, rfl, lr⟩ (.refl _) ?_ ?_
 rintro o _ k _ _ T U ⟨rfl, rfl, c⟩ p s
 unfold mSlicesEqual_L104 at p
 have hm := p
 refine Cr<|Ts rfl (lT rfl rfl (by omega))<|Te<|Cs<|c_cond_t rfl<|Ck<|Xn<|Cs<|Cb<|Cr ?_
 refine M rfl rfl<|As rfl rfl<|Te<|Cs ?_
 obtain ⟨V, t, hm⟩ := bS hm
 obtain ⟨W, u, hm⟩ := bS hm
 refine Di mixed (.refl _)<|E0 0 rfl (sM rfl)<|E0 1 rfl (sM rfl) ?_
 obtain ⟨w, x, y⟩ := iS t
 obtain ⟨X, z, A, B, C⟩ := FZ.get (sz := 1) rfl (by decide) (m.le c) y
 obtain rfl := z
 refine E0 2 rfl (sI w rfl rfl x C B sl22)<|Es 3 rfl (sO rfl one9 (A 0 _ rfl))<|E0 4 rfl (sM rfl)<|E0 5 rfl (sM rfl) ?_
 obtain ⟨D, E, F⟩ := iS u
 obtain ⟨Y, G, H, I, J⟩ := FZ.get (sz := 1) rfl (by decide) (q.le c) F
 obtain rfl := G
 refine E0 6 rfl (sI D rfl rfl E J I sl22)<|Es 7 rfl (sO rfl one9 (H 0 _ rfl))<|E0 8 rfl (st_sneq rfl rfl)<|Eo<|Dd (by kernel_rfl)<|Xn ?_
 refine Cc _ rfl (fun l => ?_) (fun l => ?_)
 rw [if_neg (fun hh => Bool.noConfusion (hh.symm.trans (nt l)))] at hm
 refine Cr<|As rfl rfl<|Te<|Ct<|Xb<|Xr<|Xr<|Xb<|Xr ?_
 have K := s _ (Option.some.inj hm).symm
 rw [K] at e
 have hm := elimR e
 obtain rfl := o1 hm
 exact rM (rs := [.tmp 4]) (vs := [bv false]) ⟨rfl, trivial⟩ ⟨rfl, rfl⟩ (.refl _) c
 rw [if_pos (nf l)] at hm
 refine Ck<|Xm<|Xn<|Cg<|Ts rfl (sa rfl rfl (by omega))<|M rfl rfl<|Tn ?_
 exact xM hm ⟨rfl, rfl, (c)⟩ (.refl _)
 rintro _ k _ _ ⟨rfl, rfl, c⟩ L
 rw [L] at e
 have hm := elimL e
 refine Cr<|Ts rfl (lF rfl rfl (by omega))<|Te<|Cs<|c_cond_f rfl<|Ce<|Xe<|Xe<|Xo<|Xn ?_
 refine Cr<|As rfl rfl<|Te<|Ct ?_
 obtain rfl := o1 hm
 exact rM (rs := [.tmp 4]) (vs := [bv true]) ⟨rfl, trivial⟩ ⟨rfl, rfl⟩ (.refl _) c

set_option maxRecDepth 20000 in
theorem cSlicesEqual_2 (b : Base) (R : Hp) (d : (List ApiSection)) (f : (List ApiSection)) (h : OA) (i : Nat) (k : OA) (l : Nat) (q : FZ rApiSection b.w h i d) (y : FZ rApiSection b.w k l f) (r : Bool) (hm : mSlicesEqual_2 d f = some r) :
    CallsG Tryd.prog 9 [sv h d i, sv k f l] b (R) (fun v b' hp' => bv r = v ∧ R = hp') := by
 refine fE 26 Tryd.func9 rfl Tryd.ntmps9 rfl ?_
 unfold mSlicesEqual_2 at hm
 refine Cr<|As rfl rfl<|Te<|Cs<|Cr<|M rfl rfl<|Ts rfl (sE rfl sl23)<|M rfl rfl<|Ts rfl (sE rfl sl23)<|Ts rfl (q2 rfl rfl) ?_
 refine Te ?_
 refine Cc _ rfl (fun m => ?_) (fun m => ?_)
 rw [if_pos (of_decide_eq_true m)] at hm
 refine Cr<|As rfl rfl<|Te<|Ct<|Xr ?_
 obtain rfl := o1 hm
 exact rM (rs := [.tmp 4]) (vs := [bv false]) ⟨rfl, trivial⟩ ⟨rfl, rfl⟩ (.refl _) lr
 rw [if_neg (of_decide_eq_false m)] at hm
 refine Ck<|Xn<|Cs<|Cr<|M rfl rfl<|Ts rfl (sE rfl sl23)<|M rfl rfl<|Te<|Cb ?_
 have W : d.length ≤ 9223372036854775807 := (FZ.bd q)
 obtain ⟨X, z, g⟩ := bS hm
 refine cF (fun s => fun _ => fun n e' hp' => [(0, sv h d i), (1, sv k f l), (12, iv ((d.length : Int))), (13, iv ((s : Int)))] = e' ∧ R = hp' ∧ b.Le n) z ⟨rfl, rfl, lr⟩ (.refl _) ?_ ?_
 rintro s _ n _ _ Y Z ⟨rfl, rfl, e⟩ t A
 unfold mSlicesEqual_2_L104 at t
 have hm := t
 refine Cr<|Ts rfl (lT rfl rfl (by omega))<|Te<|Cs<|c_cond_t rfl<|Ck<|Xn<|Cs<|Cb<|Cr ?_
 refine M rfl rfl<|As rfl rfl<|Te<|Cs ?_
 obtain ⟨a, B, hm⟩ := bS hm
 obtain ⟨c, C, hm⟩ := bS hm
 refine Di mixed (.refl _)<|E0 0 rfl (sM rfl)<|E0 1 rfl (sM rfl) ?_
 obtain ⟨D, E, F⟩ := iS B
 obtain ⟨aa, G, H, w, I⟩ := FZ.get (sz := 7) rfl (by decide) (q.le e) F
 obtain ⟨_, _, rfl, rfl, ⟨_, _, rfl, rfl, ⟨_, _, rfl, rfl, ⟨_, _, rfl, rfl, ⟨_, _, rfl, rfl, ⟨_, _, rfl, rfl, rfl⟩⟩⟩⟩⟩⟩ := G
 refine E0 2 rfl (sI D rfl rfl E I w sl23)<|Es 3 rfl (sP (vs := [iv a.Kind, iv a.Length, iv a.Grade, iv a.Speed, iv a.Slow, iv a.Station, bv a.Axles]) 7 rfl agg39 w rfl (fun j u hu => H j u hu))<|E0 4 rfl (sM rfl)<|E0 5 rfl (sM rfl) ?_
 obtain ⟨J, K, L⟩ := iS C
 obtain ⟨ab, O, S, x, T⟩ := FZ.get (sz := 7) rfl (by decide) (y.le e) L
 obtain ⟨_, _, rfl, rfl, ⟨_, _, rfl, rfl, ⟨_, _, rfl, rfl, ⟨_, _, rfl, rfl, ⟨_, _, rfl, rfl, ⟨_, _, rfl, rfl, rfl⟩⟩⟩⟩⟩⟩ := O
 refine E0 6 rfl (sI J rfl rfl K T x sl23)<|Es 7 rfl (sP (vs := [iv c.Kind, iv c.Length, iv c.Grade, iv c.Speed, iv c.Slow, iv c.Station, bv c.Axles]) 7 rfl agg39 x rfl (fun j u hu => S j u hu))<|E0 8 rfl (st_neqA (xs := [iv a.Kind, iv a.Length, iv a.Grade, iv a.Speed, iv a.Slow, iv a.Station, bv a.Axles]) (ys := [iv c.Kind, iv c.Length, iv c.Grade, iv c.Speed, iv c.Slow, iv c.Station, bv c.Axles]) (p := a.Kind = c.Kind ∧ a.Length = c.Length ∧ a.Grade = c.Grade ∧ a.Speed = c.Speed ∧ a.Slow = c.Slow ∧ a.Station = c.Station ∧ a.Axles = c.Axles) rfl rfl eqt39 ⟨⟨_, rfl⟩, ⟨⟨_, rfl⟩, ⟨⟨_, rfl⟩, ⟨⟨_, rfl⟩, ⟨⟨_, rfl⟩, ⟨⟨_, rfl⟩, ⟨⟨_, rfl⟩, trivial⟩⟩⟩⟩⟩⟩⟩ ⟨⟨_, rfl⟩, ⟨⟨_, rfl⟩, ⟨⟨_, rfl⟩, ⟨⟨_, rfl⟩, ⟨⟨_, rfl⟩, ⟨⟨_, rfl⟩, ⟨⟨_, rfl⟩, trivial⟩⟩⟩⟩⟩⟩⟩ (by simp [eqCells, eqCell, Bool.decide_and, beq_dec] <;> cases a.Axles <;> cases c.Axles <;> rfl))<|Eo<|Dd (by kernel_rfl)<|Xn ?_
 refine Cc _ rfl (fun o => ?_) (fun o => ?_)
 rw [if_neg (of_decide_eq_false (nt o))] at hm
 refine Cr<|As rfl rfl<|Te<|Ct<|Xb<|Xr<|Xr<|Xb<|Xr ?_
 have U := A _ (Option.some.inj hm).symm
 rw [U] at g
 have hm := elimR g
 obtain rfl := o1 hm
 exact rM (rs := [.tmp 4]) (vs := [bv false]) ⟨rfl, trivial⟩ ⟨rfl, rfl⟩ (.refl _) e
 rw [if_pos (of_decide_eq_true (nf o))] at hm
 refine Ck<|Xm<|Xn<|Cg<|Ts rfl (sa rfl rfl (by omega))<|M rfl rfl<|Tn ?_
 exact xM hm ⟨rfl, rfl, (e)⟩ (.refl _)
 rintro _ n _ _ ⟨rfl, rfl, e⟩ V
 rw [V] at g
 have hm := elimL g
 refine Cr<|Ts rfl (lF rfl rfl (by omega))<|Te<|Cs<|c_cond_f rfl<|Ce<|Xe<|Xe<|Xo<|Xn ?_
 refine Cr<|As rfl rfl<|Te<|Ct ?_
 obtain rfl := o1 hm
 exact rM (rs := [.tmp 4]) (vs := [bv true]) ⟨rfl, trivial⟩ ⟨rfl, rfl⟩ (.refl _) e

set_option maxRecDepth 20000 in
theorem cSlicesEqual_3 (b : Base) (R : Hp) (d : (List ApiLink)) (f : (List ApiLink)) (h : OA) (i : Nat) (k : OA) (l : Nat) (q : FZ rApiLink b.w h i d) (y : FZ rApiLink b.w k l f) (r : Bool) (hm : mSlicesEqual_3 d f = some r) :
    CallsG Tryd.prog 10 [sv h d i, sv k f l] b (R) (fun v b' hp' => bv r = v ∧ R = hp') := by
 refine fE 26 Tryd.func10 rfl Tryd.ntmps10 rfl ?_
 unfold mSlicesEqual_3 at hm
 refine Cr<|As rfl rfl<|Te<|Cs<|Cr<|M rfl rfl<|Ts rfl (sE rfl sl24)<|M rfl rfl<|Ts rfl (sE rfl sl24)<|Ts rfl (q2 rfl rfl) ?_
 refine Te ?_
 refine Cc _ rfl (fun m => ?_) (fun m => ?_)
 rw [if_pos (of_decide_eq_true m)] at hm
 refine Cr<|As rfl rfl<|Te<|Ct<|Xr ?_
 obtain rfl := o1 hm
 exact rM (rs := [.tmp 4]) (vs := [bv false]) ⟨rfl, trivial⟩ ⟨rfl, rfl⟩ (.refl _) lr
 rw [if_neg (of_decide_eq_false m)] at hm
 refine Ck<|Xn<|Cs<|Cr<|M rfl rfl<|Ts rfl (sE rfl sl24)<|M rfl rfl<|Te<|Cb ?_
 have W : d.length ≤ 9223372036854775807 := (FZ.bd q)
 obtain ⟨X, z, g⟩ := bS hm
 refine cF (fun s => fun _ => fun n e' hp' => [(0, sv h d i), (1, sv k f l), (12, iv ((d.length : Int))), (13, iv ((s : Int)))] = e' ∧ R = hp' ∧ b.Le n) z ⟨rfl, rfl, lr⟩ (.refl _) ?_ ?_
 rintro s _ n _ _ Y Z ⟨rfl, rfl, e⟩ t A
 unfold mSlicesEqual_3_L104 at t
 have hm := t
 refine Cr<|Ts rfl (lT rfl rfl (by omega))<|Te<|Cs<|c_cond_t rfl<|Ck<|Xn<|Cs<|Cb<|Cr ?_
 refine M rfl rfl<|As rfl rfl<|Te<|Cs ?_
 obtain ⟨a, B, hm⟩ := bS hm
 obtain ⟨c, C, hm⟩ := bS hm
 refine Di mixed (.refl _)<|E0 0 rfl (sM rfl)<|E0 1 rfl (sM rfl) ?_
 obtain ⟨D, E, F⟩ := iS B
 obtain ⟨aa, G, H, w, I⟩ := FZ.get (sz := 4) rfl (by decide) (q.le e) F
 obtain ⟨_, _, rfl, rfl, ⟨_, _, rfl, rfl, ⟨_, _, rfl, rfl, rfl⟩⟩⟩ := G
 refine E0 2 rfl (sI D rfl rfl E I w sl24)<|Es 3 rfl (sP (vs := [iv a.A, iv a.EndA, iv a.B, iv a.EndB]) 4 rfl agg42 w rfl (fun j u hu => H j u hu))<|E0 4 rfl (sM rfl)<|E0 5 rfl (sM rfl) ?_
 obtain ⟨J, K, L⟩ := iS C
 obtain ⟨ab, O, S, x, T⟩ := FZ.get (sz := 4) rfl (by decide) (y.le e) L
 obtain ⟨_, _, rfl, rfl, ⟨_, _, rfl, rfl, ⟨_, _, rfl, rfl, rfl⟩⟩⟩ := O
 refine E0 6 rfl (sI J rfl rfl K T x sl24)<|Es 7 rfl (sP (vs := [iv c.A, iv c.EndA, iv c.B, iv c.EndB]) 4 rfl agg42 x rfl (fun j u hu => S j u hu))<|E0 8 rfl (st_neqA (xs := [iv a.A, iv a.EndA, iv a.B, iv a.EndB]) (ys := [iv c.A, iv c.EndA, iv c.B, iv c.EndB]) (p := a.A = c.A ∧ a.EndA = c.EndA ∧ a.B = c.B ∧ a.EndB = c.EndB) rfl rfl eqt42 ⟨⟨_, rfl⟩, ⟨⟨_, rfl⟩, ⟨⟨_, rfl⟩, ⟨⟨_, rfl⟩, trivial⟩⟩⟩⟩ ⟨⟨_, rfl⟩, ⟨⟨_, rfl⟩, ⟨⟨_, rfl⟩, ⟨⟨_, rfl⟩, trivial⟩⟩⟩⟩ (by simp [eqCells, eqCell, Bool.decide_and, beq_dec]))<|Eo<|Dd (by kernel_rfl)<|Xn ?_
 refine Cc _ rfl (fun o => ?_) (fun o => ?_)
 rw [if_neg (of_decide_eq_false (nt o))] at hm
 refine Cr<|As rfl rfl<|Te<|Ct<|Xb<|Xr<|Xr<|Xb<|Xr ?_
 have U := A _ (Option.some.inj hm).symm
 rw [U] at g
 have hm := elimR g
 obtain rfl := o1 hm
 exact rM (rs := [.tmp 4]) (vs := [bv false]) ⟨rfl, trivial⟩ ⟨rfl, rfl⟩ (.refl _) e
 rw [if_pos (of_decide_eq_true (nf o))] at hm
 refine Ck<|Xm<|Xn<|Cg<|Ts rfl (sa rfl rfl (by omega))<|M rfl rfl<|Tn ?_
 exact xM hm ⟨rfl, rfl, (e)⟩ (.refl _)
 rintro _ n _ _ ⟨rfl, rfl, e⟩ V
 rw [V] at g
 have hm := elimL g
 refine Cr<|Ts rfl (lF rfl rfl (by omega))<|Te<|Cs<|c_cond_f rfl<|Ce<|Xe<|Xe<|Xo<|Xn ?_
 refine Cr<|As rfl rfl<|Te<|Ct ?_
 obtain rfl := o1 hm
 exact rM (rs := [.tmp 4]) (vs := [bv true]) ⟨rfl, trivial⟩ ⟨rfl, rfl⟩ (.refl _) e

set_option maxRecDepth 20000 in
theorem cSlicesEqual_4 (b : Base) (R : Hp) (a : (List ApiSignal)) (f : (List ApiSignal)) (h : OA) (i : Nat) (k : OA) (l : Nat) (q : FZ rApiSignal b.w h i a) (y : FZ rApiSignal b.w k l f) (r : Bool) (hm : mSlicesEqual_4 a f = some r) :
    CallsG Tryd.prog 11 [sv h a i, sv k f l] b (R) (fun v b' hp' => bv r = v ∧ R = hp') := by
 refine fE 26 Tryd.func11 rfl Tryd.ntmps11 rfl ?_
 unfold mSlicesEqual_4 at hm
 refine Cr<|As rfl rfl<|Te<|Cs<|Cr<|M rfl rfl<|Ts rfl (sE rfl sl25)<|M rfl rfl<|Ts rfl (sE rfl sl25)<|Ts rfl (q2 rfl rfl) ?_
 refine Te ?_
 refine Cc _ rfl (fun m => ?_) (fun m => ?_)
 rw [if_pos (of_decide_eq_true m)] at hm
 refine Cr<|As rfl rfl<|Te<|Ct<|Xr ?_
 obtain rfl := o1 hm
 exact rM (rs := [.tmp 4]) (vs := [bv false]) ⟨rfl, trivial⟩ ⟨rfl, rfl⟩ (.refl _) lr
 rw [if_neg (of_decide_eq_false m)] at hm
 refine Ck<|Xn<|Cs<|Cr<|M rfl rfl<|Ts rfl (sE rfl sl25)<|M rfl rfl<|Te<|Cb ?_
 have W : a.length ≤ 9223372036854775807 := (FZ.bd q)
 obtain ⟨X, z, g⟩ := bS hm
 refine cF (fun s => fun _ => fun n e' hp' => [(0, sv h a i), (1, sv k f l), (12, iv ((a.length : Int))), (13, iv ((s : Int)))] = e' ∧ R = hp' ∧ b.Le n) z ⟨rfl, rfl, lr⟩ (.refl _) ?_ ?_
 rintro s _ n _ _ Y Z ⟨rfl, rfl, c⟩ t A
 unfold mSlicesEqual_4_L104 at t
 have hm := t
 refine Cr<|Ts rfl (lT rfl rfl (by omega))<|Te<|Cs<|c_cond_t rfl<|Ck<|Xn<|Cs<|Cb<|Cr ?_
 refine M rfl rfl<|As rfl rfl<|Te<|Cs ?_
 obtain ⟨d, B, hm⟩ := bS hm
 obtain ⟨e, C, hm⟩ := bS hm
 refine Di mixed (.refl _)<|E0 0 rfl (sM rfl)<|E0 1 rfl (sM rfl) ?_
 obtain ⟨D, E, F⟩ := iS B
 obtain ⟨aa, G, H, w, I⟩ := FZ.get (sz := 2) rfl (by decide) (q.le c) F
 obtain ⟨_, _, rfl, rfl, rfl⟩ := G
 refine E0 2 rfl (sI D rfl rfl E I w sl25)<|Es 3 rfl (sP (vs := [iv d.Section, iv d.End]) 2 rfl agg45 w rfl (fun j u hu => H j u hu))<|E0 4 rfl (sM rfl)<|E0 5 rfl (sM rfl) ?_
 obtain ⟨J, K, L⟩ := iS C
 obtain ⟨ab, O, S, x, T⟩ := FZ.get (sz := 2) rfl (by decide) (y.le c) L
 obtain ⟨_, _, rfl, rfl, rfl⟩ := O
 refine E0 6 rfl (sI J rfl rfl K T x sl25)<|Es 7 rfl (sP (vs := [iv e.Section, iv e.End]) 2 rfl agg45 x rfl (fun j u hu => S j u hu))<|E0 8 rfl (st_neqA (xs := [iv d.Section, iv d.End]) (ys := [iv e.Section, iv e.End]) (p := d.Section = e.Section ∧ d.End = e.End) rfl rfl eqt45 ⟨⟨_, rfl⟩, ⟨⟨_, rfl⟩, trivial⟩⟩ ⟨⟨_, rfl⟩, ⟨⟨_, rfl⟩, trivial⟩⟩ (by simp [eqCells, eqCell, Bool.decide_and, beq_dec]))<|Eo<|Dd (by kernel_rfl)<|Xn ?_
 refine Cc _ rfl (fun o => ?_) (fun o => ?_)
 rw [if_neg (of_decide_eq_false (nt o))] at hm
 refine Cr<|As rfl rfl<|Te<|Ct<|Xb<|Xr<|Xr<|Xb<|Xr ?_
 have U := A _ (Option.some.inj hm).symm
 rw [U] at g
 have hm := elimR g
 obtain rfl := o1 hm
 exact rM (rs := [.tmp 4]) (vs := [bv false]) ⟨rfl, trivial⟩ ⟨rfl, rfl⟩ (.refl _) c
 rw [if_pos (of_decide_eq_true (nf o))] at hm
 refine Ck<|Xm<|Xn<|Cg<|Ts rfl (sa rfl rfl (by omega))<|M rfl rfl<|Tn ?_
 exact xM hm ⟨rfl, rfl, (c)⟩ (.refl _)
 rintro _ n _ _ ⟨rfl, rfl, c⟩ V
 rw [V] at g
 have hm := elimL g
 refine Cr<|Ts rfl (lF rfl rfl (by omega))<|Te<|Cs<|c_cond_f rfl<|Ce<|Xe<|Xe<|Xo<|Xn ?_
 refine Cr<|As rfl rfl<|Te<|Ct ?_
 obtain rfl := o1 hm
 exact rM (rs := [.tmp 4]) (vs := [bv true]) ⟨rfl, trivial⟩ ⟨rfl, rfl⟩ (.refl _) c

set_option maxRecDepth 20000 in
theorem cSlicesEqual_5 (b : Base) (R : Hp) (a : (List ApiGate)) (f : (List ApiGate)) (h : OA) (i : Nat) (k : OA) (l : Nat) (q : FZ rApiGate b.w h i a) (y : FZ rApiGate b.w k l f) (r : Bool) (hm : mSlicesEqual_5 a f = some r) :
    CallsG Tryd.prog 12 [sv h a i, sv k f l] b (R) (fun v b' hp' => bv r = v ∧ R = hp') := by
 refine fE 26 Tryd.func12 rfl Tryd.ntmps12 rfl ?_
 unfold mSlicesEqual_5 at hm
 refine Cr<|As rfl rfl<|Te<|Cs<|Cr<|M rfl rfl<|Ts rfl (sE rfl sl26)<|M rfl rfl<|Ts rfl (sE rfl sl26)<|Ts rfl (q2 rfl rfl) ?_
 refine Te ?_
 refine Cc _ rfl (fun m => ?_) (fun m => ?_)
 rw [if_pos (of_decide_eq_true m)] at hm
 refine Cr<|As rfl rfl<|Te<|Ct<|Xr ?_
 obtain rfl := o1 hm
 exact rM (rs := [.tmp 4]) (vs := [bv false]) ⟨rfl, trivial⟩ ⟨rfl, rfl⟩ (.refl _) lr
 rw [if_neg (of_decide_eq_false m)] at hm
 refine Ck<|Xn<|Cs<|Cr<|M rfl rfl<|Ts rfl (sE rfl sl26)<|M rfl rfl<|Te<|Cb ?_
 have W : a.length ≤ 9223372036854775807 := (FZ.bd q)
 obtain ⟨X, z, g⟩ := bS hm
 refine cF (fun s => fun _ => fun n e' hp' => [(0, sv h a i), (1, sv k f l), (12, iv ((a.length : Int))), (13, iv ((s : Int)))] = e' ∧ R = hp' ∧ b.Le n) z ⟨rfl, rfl, lr⟩ (.refl _) ?_ ?_
 rintro s _ n _ _ Y Z ⟨rfl, rfl, c⟩ t A
 unfold mSlicesEqual_5_L104 at t
 have hm := t
 refine Cr<|Ts rfl (lT rfl rfl (by omega))<|Te<|Cs<|c_cond_t rfl<|Ck<|Xn<|Cs<|Cb<|Cr ?_
 refine M rfl rfl<|As rfl rfl<|Te<|Cs ?_
 obtain ⟨d, B, hm⟩ := bS hm
 obtain ⟨e, C, hm⟩ := bS hm
 refine Di mixed (.refl _)<|E0 0 rfl (sM rfl)<|E0 1 rfl (sM rfl) ?_
 obtain ⟨D, E, F⟩ := iS B
 obtain ⟨aa, G, H, w, I⟩ := FZ.get (sz := 2) rfl (by decide) (q.le c) F
 obtain ⟨_, _, rfl, rfl, rfl⟩ := G
 refine E0 2 rfl (sI D rfl rfl E I w sl26)<|Es 3 rfl (sP (vs := [iv d.Section, iv d.Close]) 2 rfl agg48 w rfl (fun j u hu => H j u hu))<|E0 4 rfl (sM rfl)<|E0 5 rfl (sM rfl) ?_
 obtain ⟨J, K, L⟩ := iS C
 obtain ⟨ab, O, S, x, T⟩ := FZ.get (sz := 2) rfl (by decide) (y.le c) L
 obtain ⟨_, _, rfl, rfl, rfl⟩ := O
 refine E0 6 rfl (sI J rfl rfl K T x sl26)<|Es 7 rfl (sP (vs := [iv e.Section, iv e.Close]) 2 rfl agg48 x rfl (fun j u hu => S j u hu))<|E0 8 rfl (st_neqA (xs := [iv d.Section, iv d.Close]) (ys := [iv e.Section, iv e.Close]) (p := d.Section = e.Section ∧ d.Close = e.Close) rfl rfl eqt48 ⟨⟨_, rfl⟩, ⟨⟨_, rfl⟩, trivial⟩⟩ ⟨⟨_, rfl⟩, ⟨⟨_, rfl⟩, trivial⟩⟩ (by simp [eqCells, eqCell, Bool.decide_and, beq_dec]))<|Eo<|Dd (by kernel_rfl)<|Xn ?_
 refine Cc _ rfl (fun o => ?_) (fun o => ?_)
 rw [if_neg (of_decide_eq_false (nt o))] at hm
 refine Cr<|As rfl rfl<|Te<|Ct<|Xb<|Xr<|Xr<|Xb<|Xr ?_
 have U := A _ (Option.some.inj hm).symm
 rw [U] at g
 have hm := elimR g
 obtain rfl := o1 hm
 exact rM (rs := [.tmp 4]) (vs := [bv false]) ⟨rfl, trivial⟩ ⟨rfl, rfl⟩ (.refl _) c
 rw [if_pos (of_decide_eq_true (nf o))] at hm
 refine Ck<|Xm<|Xn<|Cg<|Ts rfl (sa rfl rfl (by omega))<|M rfl rfl<|Tn ?_
 exact xM hm ⟨rfl, rfl, (c)⟩ (.refl _)
 rintro _ n _ _ ⟨rfl, rfl, c⟩ V
 rw [V] at g
 have hm := elimL g
 refine Cr<|Ts rfl (lF rfl rfl (by omega))<|Te<|Cs<|c_cond_f rfl<|Ce<|Xe<|Xe<|Xo<|Xn ?_
 refine Cr<|As rfl rfl<|Te<|Ct ?_
 obtain rfl := o1 hm
 exact rM (rs := [.tmp 4]) (vs := [bv true]) ⟨rfl, trivial⟩ ⟨rfl, rfl⟩ (.refl _) c

set_option maxRecDepth 20000 in
theorem cFishkeep1LineTold (b : Base) (R : Hp) (hG : GOn GT b) (c : ApiNet) (j : OA) (k : Nat) (m : OA) (n : Nat) (p : OA) (q : Nat) (r : OA) (s : Nat) (t : OA) (u : Nat) (H : FZ RT.str b.w j k c.Stations) (I : FZ rApiSection b.w m n c.Sections) (J : FZ rApiLink b.w p q c.Links) (K : FZ rApiSignal b.w r s c.Signals) (L : FZ rApiGate b.w t u c.Gates) (Y : Bool) (hm : mFishkeep1LineTold c = some Y) :
    CallsG Tryd.prog 3 [.agg #[sv j c.Stations k, sv m c.Sections n, sv p c.Links q, sv r c.Signals s, sv t c.Gates u]] b (R) (fun v b' hp' => bv Y = v ∧ R = hp') := by
 refine fE 86 Tryd.func3 rfl Tryd.ntmps3 rfl ?_
 unfold mFishkeep1LineTold at hm
 refine Cr<|Do rfl (uB _ rfl rfl) ?_
 rintro _ _ ⟨aX, rfl, rfl⟩
 refine As rfl rfl<|Te<|Cs<|Cr ?_
 obtain ⟨aA, aB, hm⟩ := bS hm
 refine Do rfl (uW _ call4 rfl (fun w ho => cFishkeep1AwakeLine _ [] ((hG.le lr).old ho) aA aB) (fun _ _ _ h => h.2.symm)) ?_
 rintro _ _ ⟨⟨_, rfl, _⟩, rfl⟩
 refine Ts rfl (sn2 rfl)<|Te ?_
 refine Cc _ rfl (fun O => ?_) (fun O => ?_)
 rw [if_neg (fun hh => Bool.noConfusion (hh.symm.trans (nt O)))] at hm
 refine Cr<|As rfl rfl<|Te<|Ct<|Xr ?_
 obtain rfl := o1 hm
 exact rM (rs := [.tmp 2]) (vs := [bv false]) ⟨rfl, trivial⟩ ⟨rfl, rfl⟩ (.cons _ (.refl _)) lr
 rw [if_pos (nf O)] at hm
 refine Ck<|Xn<|Cr<|Ts rfl (sD (vs := [_, _, _, _, _]) 0 5 rfl agg28 rfl rfl rfl) ?_
 obtain ⟨⟨S, aC⟩, aD, hm⟩ := bS hm
 have hm := (unc2E hm)
 refine Do rfl (uW _ call5 rfl (fun w ho => cLineText _ [] ((hG.le lr).old ho) c j k m n p q r s t u (H.old ho) (I.old ho) (J.old ho) (K.old ho) (L.old ho) S aC aD) (fun _ _ _ h => h.2.symm)) ?_
 rintro _ _ ⟨⟨_, rfl, _⟩, rfl⟩
 refine M rfl rfl<|Ts rfl (st_extract rfl rfl)<|Ts rfl (st_extract rfl rfl)<|As rfl rfl<|As rfl rfl<|Te<|Cs<|Cr<|M rfl rfl<|Ts rfl (q2 rfl rfl) ?_
 refine Te ?_
 refine Cc _ rfl (fun T => ?_) (fun T => ?_)
 rw [if_pos (of_decide_eq_true T)] at hm
 obtain ⟨Z, aE, aF⟩ := bS hm
 refine Cj (fun aa e' hp' => [(2, bv Z)] = e' ∧ R = hp' ∧ b.Le aa) ?_ ?_
 have hm := aE
 refine Cg<|Ts rfl (sD (vs := [_, _, _, _, _]) 0 5 rfl agg28 rfl rfl rfl) ?_
 obtain ⟨aG, aH, hm⟩ := bS hm
 refine Do rfl (uW _ call6 rfl (fun w ho => cLineCheck _ [] c j k m n p q r s t u (H.old ho) (I.old ho) (J.old ho) (K.old ho) (L.old ho) aG aH) (fun _ _ _ h => h.2.symm)) ?_
 rintro _ _ ⟨⟨_, rfl, _⟩, rfl⟩
 refine M rfl rfl ?_
 refine Tb rfl (q1 rfl rfl) (fun U => ?_) (fun U => ?_)
 rw [if_pos U] at hm
 refine M rfl rfl<|Ys 21 rfl rfl rfl<|M rfl rfl<|Ys 21 rfl rfl rfl<|Ts rfl (st_seql rfl rfl)<|Ts rfl (pT rfl rfl)<|As rfl rfl<|Tn ?_
 obtain rfl := o1 hm
 exact xJ ⟨rfl, rfl, lr⟩ (.cons _ (.refl _))
 rw [if_neg U] at hm
 refine M rfl rfl<|No 21 rfl rfl rfl rfl rfl<|No 21 rfl rfl rfl rfl rfl<|Ts rfl (pF rfl rfl)<|As rfl rfl<|Tn ?_
 obtain rfl := o1 hm
 exact xJ ⟨rfl, rfl, lr⟩ (.cons _ (.refl _))
 rintro aa _ _ ⟨rfl, rfl, aI⟩
 have hm := aF
 refine Ct<|Xr ?_
 obtain rfl := o1 hm
 exact rM (rs := [.tmp 2]) (vs := [bv Z]) ⟨rfl, trivial⟩ ⟨rfl, rfl⟩ (.refl _) aI
 rw [if_neg (of_decide_eq_false T)] at hm
 refine Ck<|Xn<|Cr<|M rfl rfl ?_
 obtain ⟨⟨aJ, x, y, z, A, B⟩, aK, hm⟩ := bS hm
 have hm := (unc6E hm)
 refine Tg _ rfl call7 rfl (cLineRead _ _ (hG.le lr) S aJ x y z A B aK) ?_
 rintro _ aL _ i ⟨ab, ac, a, ad, ae, d, af, ag, e, ah, ai, f, aj, ak, g, rfl, rfl, al, aY, am, aZ, an, a0, ao, a1, aq, a2⟩
 refine t_in5 [] [_] a d e f g R rfl<|M rfl rfl<|Ts rfl (st_extract rfl rfl)<|Ts rfl (st_extract rfl rfl)<|Do rfl (uA [sn, sn, sn, sn, sn] zero28 rfl) ?_
 rintro _ _ ⟨a3, rfl, rfl⟩
 refine Do rfl (uN (vs := [_, _, _, _, _]) 0 5 rfl rfl rfl siz28 rfl (mc rfl (mc rfl (mc rfl (mc rfl (mc rfl mn))))) rfl (by simp)) ?_
 rintro _ _ rfl
 refine As rfl rfl<|Te<|Cr<|Ts rfl (sD (vs := [_, _, _, _, _]) 0 5 rfl agg28 rfl rfl rfl) ?_
 obtain ⟨⟨ar, aM⟩, aN, hm⟩ := bS hm
 have hm := (unc2E hm)
 refine Do rfl (uW _ call5 rfl (fun w ho => cLineText _ [] ((hG.le i).old ho) (⟨x, y, z, A, B⟩ : ApiNet) ab ac ad ae af ag ah ai aj ak (OS.now (o := (OT.fr RT.str)) (l := x) (hs := a) al ho (.cons _ (.cons _ (List.sublist_append_left _ _)))) (OS.now (o := (OT.fr rApiSection)) (l := y) (hs := d) am ho (.cons _ (.cons _ (ss a (List.sublist_append_left _ _))))) (OS.now (o := (OT.fr rApiLink)) (l := z) (hs := e) an ho (.cons _ (.cons _ (ss a (ss d (List.sublist_append_left _ _)))))) (OS.now (o := (OT.fr rApiSignal)) (l := A) (hs := f) ao ho (.cons _ (.cons _ (ss a (ss d (ss e (List.sublist_append_left _ _))))))) (OS.now (o := (OT.fr rApiGate)) (l := B) (hs := g) aq ho (.cons _ (.cons _ (ss a (ss d (ss e (ss f (List.sublist_append_left _ _)))))))) ar aM aN) (fun _ _ _ h => h.2.symm)) ?_
 rintro _ _ ⟨⟨_, rfl, _⟩, rfl⟩
 refine M rfl rfl<|Ts rfl (st_extract rfl rfl)<|Ts rfl (st_extract rfl rfl)<|As rfl rfl<|As rfl rfl<|Te ?_
 obtain ⟨au, aO, aP⟩ := bS hm
 refine Cj (fun av e' hp' => [(2, bv au)] = e' ∧ R = hp' ∧ aL.Le av) ?_ ?_
 have hm := aO
 refine Cg<|M rfl rfl<|Ts rfl (st_slen rfl str9) ?_
 refine Tb rfl (q4 rfl rfl) (fun V => ?_) (fun V => ?_)
 rw [if_pos V] at hm
 refine M rfl rfl<|Ys 38 rfl rfl rfl<|M rfl rfl<|Ys 38 rfl rfl rfl ?_
 refine Tb rfl (q1 rfl rfl) (fun W => ?_) (fun W => ?_)
 rw [if_pos W] at hm
 refine Ts rfl (pT rfl rfl)<|M rfl rfl<|Ys 42 rfl rfl rfl<|M rfl rfl<|Ys 42 rfl rfl rfl ?_
 refine Tb rfl (q1 rfl rfl) (fun X => ?_) (fun X => ?_)
 rw [if_pos X] at hm
 refine Ts rfl (pT rfl rfl)<|M rfl rfl<|Ys 46 rfl rfl rfl<|M rfl rfl<|Ys 46 rfl rfl rfl<|M rfl rfl<|Ys 46 rfl rfl rfl<|Ts rfl (st_seql rfl rfl) ?_
 rcases Bool.eq_false_or_eq_true (sEq ar S) with C | C
 rw [if_pos C] at hm
 refine Tr 49 rfl (v' := .bool true) (by rw [C] <;> rfl)<|Ts rfl (pT rfl rfl)<|M rfl rfl<|Ys 51 rfl rfl rfl<|Ts rfl (sF rfl fld28_0)<|Ys 51 rfl rfl rfl<|Ts rfl (sL 0 rfl one22 rfl rfl)<|Ys 51 rfl rfl rfl<|Ts rfl (sF rfl fld28_0)<|Ys 51 rfl rfl rfl ?_
 refine Ts rfl (sL 1 rfl one22 rfl rfl)<|Ys 51 rfl rfl rfl ?_
 obtain ⟨aw, aQ, hm⟩ := bS hm
 refine Do rfl (uW _ call8 rfl (fun w ho => cSlicesEqual _ [] x c.Stations ab ac j k (OS.now (o := (OT.fr RT.str)) (l := x) (hs := a) al ho (.cons _ (.cons _ (List.sublist_append_left _ _)))) ((H.le i).old ho) aw aQ) (fun _ _ _ h => h.2.symm)) ?_
 rintro _ _ ⟨⟨_, rfl, _⟩, rfl⟩
 rcases Bool.eq_false_or_eq_true aw with D | D
 rw [if_pos D] at hm
 refine Tr 56 rfl (v' := .bool true) (by rw [D] <;> rfl)<|Ts rfl (pT rfl rfl)<|M rfl rfl<|Ys 58 rfl rfl rfl<|Ts rfl (sF rfl fld28_1)<|Ys 58 rfl rfl rfl<|Ts rfl (sL 0 rfl one23 rfl rfl)<|Ys 58 rfl rfl rfl<|Ts rfl (sF rfl fld28_1)<|Ys 58 rfl rfl rfl ?_
 refine Ts rfl (sL 1 rfl one23 rfl rfl)<|Ys 58 rfl rfl rfl ?_
 obtain ⟨ax, aR, hm⟩ := bS hm
 refine Do rfl (uW _ call9 rfl (fun w ho => cSlicesEqual_2 _ [] y c.Sections ad ae m n (OS.now (o := (OT.fr rApiSection)) (l := y) (hs := d) am ho (.cons _ (.cons _ (ss a (List.sublist_append_left _ _))))) ((I.le i).old ho) ax aR) (fun _ _ _ h => h.2.symm)) ?_
 rintro _ _ ⟨⟨_, rfl, _⟩, rfl⟩
 rcases Bool.eq_false_or_eq_true ax with E | E
 rw [if_pos E] at hm
 refine Tr 63 rfl (v' := .bool true) (by rw [E] <;> rfl)<|Ts rfl (pT rfl rfl)<|M rfl rfl<|Ys 65 rfl rfl rfl<|Ts rfl (sF rfl fld28_2)<|Ys 65 rfl rfl rfl<|Ts rfl (sL 0 rfl one24 rfl rfl)<|Ys 65 rfl rfl rfl<|Ts rfl (sF rfl fld28_2)<|Ys 65 rfl rfl rfl ?_
 refine Ts rfl (sL 1 rfl one24 rfl rfl)<|Ys 65 rfl rfl rfl ?_
 obtain ⟨ay, aS, hm⟩ := bS hm
 refine Do rfl (uW _ call10 rfl (fun w ho => cSlicesEqual_3 _ [] z c.Links af ag p q (OS.now (o := (OT.fr rApiLink)) (l := z) (hs := e) an ho (.cons _ (.cons _ (ss a (ss d (List.sublist_append_left _ _)))))) ((J.le i).old ho) ay aS) (fun _ _ _ h => h.2.symm)) ?_
 rintro _ _ ⟨⟨_, rfl, _⟩, rfl⟩
 rcases Bool.eq_false_or_eq_true ay with F | F
 rw [if_pos F] at hm
 refine Tr 70 rfl (v' := .bool true) (by rw [F] <;> rfl)<|Ts rfl (pT rfl rfl)<|M rfl rfl<|Ys 72 rfl rfl rfl<|Ts rfl (sF rfl fld28_3)<|Ys 72 rfl rfl rfl<|Ts rfl (sL 0 rfl one25 rfl rfl)<|Ys 72 rfl rfl rfl<|Ts rfl (sF rfl fld28_3)<|Ys 72 rfl rfl rfl ?_
 refine Ts rfl (sL 1 rfl one25 rfl rfl)<|Ys 72 rfl rfl rfl ?_
 obtain ⟨az, aT, hm⟩ := bS hm
 refine Do rfl (uW _ call11 rfl (fun w ho => cSlicesEqual_4 _ [] A c.Signals ah ai r s (OS.now (o := (OT.fr rApiSignal)) (l := A) (hs := f) ao ho (.cons _ (.cons _ (ss a (ss d (ss e (List.sublist_append_left _ _))))))) ((K.le i).old ho) az aT) (fun _ _ _ h => h.2.symm)) ?_
 rintro _ _ ⟨⟨_, rfl, _⟩, rfl⟩
 rcases Bool.eq_false_or_eq_true az with G | G
 rw [if_pos G] at hm
 refine Tr 77 rfl (v' := .bool true) (by rw [G] <;> rfl)<|Ts rfl (pT rfl rfl)<|M rfl rfl<|Ys 79 rfl rfl rfl<|Ts rfl (sF rfl fld28_4)<|Ys 79 rfl rfl rfl<|Ts rfl (sL 0 rfl one26 rfl rfl)<|Ys 79 rfl rfl rfl<|Ts rfl (sF rfl fld28_4)<|Ys 79 rfl rfl rfl ?_
 refine Ts rfl (sL 1 rfl one26 rfl rfl)<|Ys 79 rfl rfl rfl ?_
 obtain ⟨aU, aV, hm⟩ := bS hm
 refine Do rfl (uW _ call12 rfl (fun w ho => cSlicesEqual_5 _ [] B c.Gates aj ak t u (OS.now (o := (OT.fr rApiGate)) (l := B) (hs := g) aq ho (.cons _ (.cons _ (ss a (ss d (ss e (ss f (List.sublist_append_left _ _)))))))) ((L.le i).old ho) aU aV) (fun _ _ _ h => h.2.symm)) ?_
 rintro _ _ ⟨⟨_, rfl, _⟩, rfl⟩
 refine Ts rfl (pT rfl rfl)<|As rfl rfl<|Tn ?_
 obtain rfl := o1 hm
 exact xJ ⟨rfl, rfl, lr⟩ (.cons _ (.cons _ (ss a (ss d (ss e (ss f (ss g (.refl _))))))))
 rw [if_neg (fun hh => Bool.noConfusion (hh.symm.trans G))] at hm
 refine Tr 77 rfl (v' := .bool false) (by rw [G] <;> rfl)<|Ts rfl (pT rfl rfl)<|M rfl rfl<|No 79 rfl rfl rfl rfl rfl<|No 79 rfl rfl rfl rfl rfl<|No 79 rfl rfl rfl rfl rfl<|No 79 rfl rfl rfl rfl rfl<|No 79 rfl rfl rfl rfl rfl<|Ts rfl (pF rfl rfl)<|As rfl rfl ?_
 refine Tn ?_
 obtain rfl := o1 hm
 exact xJ ⟨rfl, rfl, lr⟩ (.cons _ (.cons _ (ss a (ss d (ss e (ss f (ss g (.refl _))))))))
 rw [if_neg (fun hh => Bool.noConfusion (hh.symm.trans F))] at hm
 refine Tr 70 rfl (v' := .bool false) (by rw [F] <;> rfl)<|Ts rfl (pT rfl rfl)<|M rfl rfl<|No 72 rfl rfl rfl rfl rfl<|No 72 rfl rfl rfl rfl rfl<|No 72 rfl rfl rfl rfl rfl<|No 72 rfl rfl rfl rfl rfl<|No 72 rfl rfl rfl rfl rfl<|Ts rfl (pF rfl rfl)<|M rfl rfl ?_
 refine No 79 rfl rfl rfl rfl rfl<|No 79 rfl rfl rfl rfl rfl<|No 79 rfl rfl rfl rfl rfl<|No 79 rfl rfl rfl rfl rfl<|No 79 rfl rfl rfl rfl rfl<|Ts rfl (pF rfl rfl)<|As rfl rfl<|Tn ?_
 obtain rfl := o1 hm
 exact xJ ⟨rfl, rfl, lr⟩ (.cons _ (.cons _ (ss a (ss d (ss e (ss f (ss g (.refl _))))))))
 rw [if_neg (fun hh => Bool.noConfusion (hh.symm.trans E))] at hm
 refine Tr 63 rfl (v' := .bool false) (by rw [E] <;> rfl)<|Ts rfl (pT rfl rfl)<|M rfl rfl<|No 65 rfl rfl rfl rfl rfl<|No 65 rfl rfl rfl rfl rfl<|No 65 rfl rfl rfl rfl rfl<|No 65 rfl rfl rfl rfl rfl<|No 65 rfl rfl rfl rfl rfl<|Ts rfl (pF rfl rfl)<|M rfl rfl ?_
 refine No 72 rfl rfl rfl rfl rfl<|No 72 rfl rfl rfl rfl rfl<|No 72 rfl rfl rfl rfl rfl<|No 72 rfl rfl rfl rfl rfl<|No 72 rfl rfl rfl rfl rfl<|Ts rfl (pF rfl rfl)<|M rfl rfl<|No 79 rfl rfl rfl rfl rfl<|No 79 rfl rfl rfl rfl rfl<|No 79 rfl rfl rfl rfl rfl ?_
 refine No 79 rfl rfl rfl rfl rfl<|No 79 rfl rfl rfl rfl rfl<|Ts rfl (pF rfl rfl)<|As rfl rfl<|Tn ?_
 obtain rfl := o1 hm
 exact xJ ⟨rfl, rfl, lr⟩ (.cons _ (.cons _ (ss a (ss d (ss e (ss f (ss g (.refl _))))))))
 rw [if_neg (fun hh => Bool.noConfusion (hh.symm.trans D))] at hm
 refine Tr 56 rfl (v' := .bool false) (by rw [D] <;> rfl)<|Ts rfl (pT rfl rfl)<|M rfl rfl<|No 58 rfl rfl rfl rfl rfl<|No 58 rfl rfl rfl rfl rfl<|No 58 rfl rfl rfl rfl rfl<|No 58 rfl rfl rfl rfl rfl<|No 58 rfl rfl rfl rfl rfl<|Ts rfl (pF rfl rfl)<|M rfl rfl ?_
 refine No 65 rfl rfl rfl rfl rfl<|No 65 rfl rfl rfl rfl rfl<|No 65 rfl rfl rfl rfl rfl<|No 65 rfl rfl rfl rfl rfl<|No 65 rfl rfl rfl rfl rfl<|Ts rfl (pF rfl rfl)<|M rfl rfl<|No 72 rfl rfl rfl rfl rfl<|No 72 rfl rfl rfl rfl rfl<|No 72 rfl rfl rfl rfl rfl ?_
 refine No 72 rfl rfl rfl rfl rfl<|No 72 rfl rfl rfl rfl rfl<|Ts rfl (pF rfl rfl)<|M rfl rfl<|No 79 rfl rfl rfl rfl rfl<|No 79 rfl rfl rfl rfl rfl<|No 79 rfl rfl rfl rfl rfl<|No 79 rfl rfl rfl rfl rfl<|No 79 rfl rfl rfl rfl rfl<|Ts rfl (pF rfl rfl) ?_
 refine As rfl rfl<|Tn ?_
 obtain rfl := o1 hm
 exact xJ ⟨rfl, rfl, lr⟩ (.cons _ (.cons _ (ss a (ss d (ss e (ss f (ss g (.refl _))))))))
 rw [if_neg (fun hh => Bool.noConfusion (hh.symm.trans C))] at hm
 refine Tr 49 rfl (v' := .bool false) (by rw [C] <;> rfl)<|Ts rfl (pT rfl rfl)<|M rfl rfl<|No 51 rfl rfl rfl rfl rfl<|No 51 rfl rfl rfl rfl rfl<|No 51 rfl rfl rfl rfl rfl<|No 51 rfl rfl rfl rfl rfl<|No 51 rfl rfl rfl rfl rfl<|Ts rfl (pF rfl rfl)<|M rfl rfl ?_
 refine No 58 rfl rfl rfl rfl rfl<|No 58 rfl rfl rfl rfl rfl<|No 58 rfl rfl rfl rfl rfl<|No 58 rfl rfl rfl rfl rfl<|No 58 rfl rfl rfl rfl rfl<|Ts rfl (pF rfl rfl)<|M rfl rfl<|No 65 rfl rfl rfl rfl rfl<|No 65 rfl rfl rfl rfl rfl<|No 65 rfl rfl rfl rfl rfl ?_
 refine No 65 rfl rfl rfl rfl rfl<|No 65 rfl rfl rfl rfl rfl<|Ts rfl (pF rfl rfl)<|M rfl rfl<|No 72 rfl rfl rfl rfl rfl<|No 72 rfl rfl rfl rfl rfl<|No 72 rfl rfl rfl rfl rfl<|No 72 rfl rfl rfl rfl rfl<|No 72 rfl rfl rfl rfl rfl<|Ts rfl (pF rfl rfl) ?_
 refine M rfl rfl<|No 79 rfl rfl rfl rfl rfl<|No 79 rfl rfl rfl rfl rfl<|No 79 rfl rfl rfl rfl rfl<|No 79 rfl rfl rfl rfl rfl<|No 79 rfl rfl rfl rfl rfl<|Ts rfl (pF rfl rfl)<|As rfl rfl<|Tn ?_
 obtain rfl := o1 hm
 exact xJ ⟨rfl, rfl, lr⟩ (.cons _ (.cons _ (ss a (ss d (ss e (ss f (ss g (.refl _))))))))
 rw [if_neg X] at hm
 refine Ts rfl (pT rfl rfl)<|M rfl rfl<|No 46 rfl rfl rfl rfl rfl<|No 46 rfl rfl rfl rfl rfl<|No 46 rfl rfl rfl rfl rfl<|Ts rfl (pF rfl rfl)<|M rfl rfl<|No 51 rfl rfl rfl rfl rfl<|No 51 rfl rfl rfl rfl rfl<|No 51 rfl rfl rfl rfl rfl ?_
 refine No 51 rfl rfl rfl rfl rfl<|No 51 rfl rfl rfl rfl rfl<|Ts rfl (pF rfl rfl)<|M rfl rfl<|No 58 rfl rfl rfl rfl rfl<|No 58 rfl rfl rfl rfl rfl<|No 58 rfl rfl rfl rfl rfl<|No 58 rfl rfl rfl rfl rfl<|No 58 rfl rfl rfl rfl rfl<|Ts rfl (pF rfl rfl) ?_
 refine M rfl rfl<|No 65 rfl rfl rfl rfl rfl<|No 65 rfl rfl rfl rfl rfl<|No 65 rfl rfl rfl rfl rfl<|No 65 rfl rfl rfl rfl rfl<|No 65 rfl rfl rfl rfl rfl<|Ts rfl (pF rfl rfl)<|M rfl rfl<|No 72 rfl rfl rfl rfl rfl<|No 72 rfl rfl rfl rfl rfl ?_
 refine No 72 rfl rfl rfl rfl rfl<|No 72 rfl rfl rfl rfl rfl<|No 72 rfl rfl rfl rfl rfl<|Ts rfl (pF rfl rfl)<|M rfl rfl<|No 79 rfl rfl rfl rfl rfl<|No 79 rfl rfl rfl rfl rfl<|No 79 rfl rfl rfl rfl rfl<|No 79 rfl rfl rfl rfl rfl<|No 79 rfl rfl rfl rfl rfl ?_
 refine Ts rfl (pF rfl rfl)<|As rfl rfl<|Tn ?_
 obtain rfl := o1 hm
 exact xJ ⟨rfl, rfl, lr⟩ (.cons _ (.cons _ (ss a (ss d (ss e (ss f (ss g (.refl _))))))))
 rw [if_neg W] at hm
 refine Ts rfl (pT rfl rfl)<|M rfl rfl<|No 42 rfl rfl rfl rfl rfl<|No 42 rfl rfl rfl rfl rfl<|Ts rfl (pF rfl rfl)<|M rfl rfl<|No 46 rfl rfl rfl rfl rfl<|No 46 rfl rfl rfl rfl rfl<|No 46 rfl rfl rfl rfl rfl<|Ts rfl (pF rfl rfl) ?_
 refine M rfl rfl<|No 51 rfl rfl rfl rfl rfl<|No 51 rfl rfl rfl rfl rfl<|No 51 rfl rfl rfl rfl rfl<|No 51 rfl rfl rfl rfl rfl<|No 51 rfl rfl rfl rfl rfl<|Ts rfl (pF rfl rfl)<|M rfl rfl<|No 58 rfl rfl rfl rfl rfl<|No 58 rfl rfl rfl rfl rfl ?_
 refine No 58 rfl rfl rfl rfl rfl<|No 58 rfl rfl rfl rfl rfl<|No 58 rfl rfl rfl rfl rfl<|Ts rfl (pF rfl rfl)<|M rfl rfl<|No 65 rfl rfl rfl rfl rfl<|No 65 rfl rfl rfl rfl rfl<|No 65 rfl rfl rfl rfl rfl<|No 65 rfl rfl rfl rfl rfl<|No 65 rfl rfl rfl rfl rfl ?_
 refine Ts rfl (pF rfl rfl)<|M rfl rfl<|No 72 rfl rfl rfl rfl rfl<|No 72 rfl rfl rfl rfl rfl<|No 72 rfl rfl rfl rfl rfl<|No 72 rfl rfl rfl rfl rfl<|No 72 rfl rfl rfl rfl rfl<|Ts rfl (pF rfl rfl)<|M rfl rfl<|No 79 rfl rfl rfl rfl rfl ?_
 refine No 79 rfl rfl rfl rfl rfl<|No 79 rfl rfl rfl rfl rfl<|No 79 rfl rfl rfl rfl rfl<|No 79 rfl rfl rfl rfl rfl<|Ts rfl (pF rfl rfl)<|As rfl rfl<|Tn ?_
 obtain rfl := o1 hm
 exact xJ ⟨rfl, rfl, lr⟩ (.cons _ (.cons _ (ss a (ss d (ss e (ss f (ss g (.refl _))))))))
 rw [if_neg V] at hm
 refine M rfl rfl<|No 38 rfl rfl rfl rfl rfl<|No 38 rfl rfl rfl rfl rfl<|Ts rfl (pF rfl rfl)<|M rfl rfl<|No 42 rfl rfl rfl rfl rfl<|No 42 rfl rfl rfl rfl rfl<|Ts rfl (pF rfl rfl)<|M rfl rfl<|No 46 rfl rfl rfl rfl rfl ?_
 refine No 46 rfl rfl rfl rfl rfl<|No 46 rfl rfl rfl rfl rfl<|Ts rfl (pF rfl rfl)<|M rfl rfl<|No 51 rfl rfl rfl rfl rfl<|No 51 rfl rfl rfl rfl rfl<|No 51 rfl rfl rfl rfl rfl<|No 51 rfl rfl rfl rfl rfl<|No 51 rfl rfl rfl rfl rfl<|Ts rfl (pF rfl rfl) ?_
 refine M rfl rfl<|No 58 rfl rfl rfl rfl rfl<|No 58 rfl rfl rfl rfl rfl<|No 58 rfl rfl rfl rfl rfl<|No 58 rfl rfl rfl rfl rfl<|No 58 rfl rfl rfl rfl rfl<|Ts rfl (pF rfl rfl)<|M rfl rfl<|No 65 rfl rfl rfl rfl rfl<|No 65 rfl rfl rfl rfl rfl ?_
 refine No 65 rfl rfl rfl rfl rfl<|No 65 rfl rfl rfl rfl rfl<|No 65 rfl rfl rfl rfl rfl<|Ts rfl (pF rfl rfl)<|M rfl rfl<|No 72 rfl rfl rfl rfl rfl<|No 72 rfl rfl rfl rfl rfl<|No 72 rfl rfl rfl rfl rfl<|No 72 rfl rfl rfl rfl rfl<|No 72 rfl rfl rfl rfl rfl ?_
 refine Ts rfl (pF rfl rfl)<|M rfl rfl<|No 79 rfl rfl rfl rfl rfl<|No 79 rfl rfl rfl rfl rfl<|No 79 rfl rfl rfl rfl rfl<|No 79 rfl rfl rfl rfl rfl<|No 79 rfl rfl rfl rfl rfl<|Ts rfl (pF rfl rfl)<|As rfl rfl<|Tn ?_
 obtain rfl := o1 hm
 exact xJ ⟨rfl, rfl, lr⟩ (.cons _ (.cons _ (ss a (ss d (ss e (ss f (ss g (.refl _))))))))
 rintro av _ _ ⟨rfl, rfl, aW⟩
 have hm := aP
 refine Ct ?_
 obtain rfl := o1 hm
 exact rM (rs := [.tmp 2]) (vs := [bv au]) ⟨rfl, trivial⟩ ⟨rfl, rfl⟩ (.refl _) (i.trans aW)

end Go.Proofs.YtaagdbecijhkmaaDoor
