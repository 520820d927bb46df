/- Contracts: the code computes its model (part 1). -/
import Derived.Test.YtiajmiigkjmakaaGreatDoorFT
import Derived.Test.YtiajmiigkjmakaaGreatDoorAW
import Derived.Test.YtiajmiigkjmakaaGreatDoorXQ
set_option linter.unusedVariables false
set_option linter.unusedSimpArgs false
namespace Go.Proofs.YtiajmiigkjmakaaGreatDoor
open Go.RowKit Go.Fp

open Go.Fp renaming t_mv → M, t_as → As, t_st → Ts, t_do → Do, t_ne → Te, t_nil → Tn, t_no → No, t_yes → Ys, t_bool → Tb, t_callG → Tg, t_callvG → Tv, t_resp → Tr, c_sr → Cr, c_seq → Cs, c_region → Cg, c_cond → Cc, c_block → Cb, c_ret → Ct, c_skip → Ck, c_exit → Ce, c_join → Cj, c_pullb → Cp, x_then_normal → Xn, x_then_ret → Xr, x_then_exit → Xe, x_block_ret → Xb, x_block_normal → Xm, x_block_out → Xo, x_block_on → Xi, x_pullb → Xp, E_st → Es, E_s0 → E0, E_yes → Ey, E_y0 → Yz, E_no → En, E_in → Ei, E_out → Eo, D_all → Da, D_done → Dd, D_drawI → Di, R_do → Rd2, R_nil → Rn, st_load → sL, st_loadD → sD, st_field → sF, st_nil → sN, st_len → sE, st_move → sM, st_assign → sA, st_pick_t → pT, st_pick_f → pF, st_index_old → sI, st_load_old → sO, st_loadN_old → sP, st_field_old → sQ, st_add → sa, st_sub → sb, st_lss_t → lT, st_lss_f → lF, st_not → sn2, st_build → sB, u_box → uB, u_alloc → uA, u_store → uS, u_storeN → uN, u_callW0 → uW, u_appOS → uQ, fn_enterG → fE, bindS → bS, some1 → o1, idx_some → iS, sub_skip → ss, chk_some → kS, notT → nt, notF → nf, mem_c → mc, mem_n → mn, st_eql → q1, st_neq → q2, st_lss → q3, st_leq → q4, st_gtr → q5, st_geq → q6
set_option maxRecDepth 20000 in
theorem cFishkeep2AwakeFare (b : Base) (R : Hp) (hm : mFishkeep2AwakeFare = some ()) :
    CallsG Tryz.prog 4 [] b (R) (fun v b' hp' => bv true = v ∧ R = hp') := by
 unfold mFishkeep2AwakeFare at hm
 clear hm
 exact awake_of

set_option maxRecDepth 20000 in
theorem cFareWithin (b : Base) (R : Hp) (c : Int) (d : Int) (e : Int) (f : Bool) (hm : mFareWithin c d e = some f) :
    CallsG Tryz.prog 16 [iv c, iv d, iv e] b (R) (fun v b' hp' => bv f = v ∧ R = hp') := by
 refine fE 15 Tryz.func16 rfl Tryz.ntmps16 rfl ?_
 unfold mFareWithin at hm
 refine Cr<|As rfl rfl<|Te ?_
 obtain ⟨g, i, j⟩ := bS hm
 refine Cj (fun h e' hp' => [(6, bv g)] = e' ∧ R = hp' ∧ b.Le h) ?_ ?_
 have hm := i
 refine Cg<|M rfl rfl<|M rfl rfl ?_
 refine Tb rfl (q6 rfl rfl) (fun a => ?_) (fun a => ?_)
 rw [if_pos a] at hm
 refine M rfl rfl<|Ys 10 rfl rfl rfl<|M rfl rfl<|Ys 10 rfl rfl rfl<|M rfl rfl<|Ys 10 rfl rfl rfl<|Ts rfl (q4 rfl rfl)<|Ts rfl (pT rfl rfl)<|As rfl rfl<|Tn ?_
 obtain rfl := o1 hm
 exact xJ ⟨rfl, rfl, lr⟩ (.refl _)
 rw [if_neg a] at hm
 refine M rfl rfl<|No 10 rfl rfl rfl rfl rfl<|No 10 rfl rfl rfl rfl rfl<|No 10 rfl rfl rfl rfl rfl<|Ts rfl (pF rfl rfl)<|As rfl rfl<|Tn ?_
 obtain rfl := o1 hm
 exact xJ ⟨rfl, rfl, lr⟩ (.refl _)
 rintro h _ _ ⟨rfl, rfl, k⟩
 have hm := j
 refine Ct ?_
 obtain rfl := o1 hm
 exact rM (rs := [.tmp 6]) (vs := [bv g]) ⟨rfl, trivial⟩ ⟨rfl, rfl⟩ (.refl _) k

set_option maxRecDepth 20000 in
theorem cFareCondSize : ∀ (N : Nat) (b : Base) (R : Hp) (a : FareCond) (c : OA) (d : Nat) (f : FZ rFareCond b.w c d a.Kids) (g : Int) (i : Int) (hm : mFareCondSize N a = some (g, i)),
    CallsG Tryz.prog 48 [.agg #[iv a.Kind, iv a.A, iv a.B, sv c a.Kids d]] b (R) (fun v b' hp' => .tuple #[iv g, iv i] = v ∧ R = hp') := by
  intro N
  induction N with
  | zero =>
    intro b R a c d f g i hm
    unfold mFareCondSize at hm
    cases hm
  | succ N ih =>
   intro b R a c d f g i hm
   refine fE 30 Tryz.func48 rfl Tryz.ntmps48 rfl ?_
   unfold mFareCondSize at hm
   refine Cr<|Do rfl (uB _ rfl rfl) ?_
   rintro _ _ ⟨L, rfl, rfl⟩
   refine As rfl rfl<|As rfl rfl<|Te<|Cr<|As rfl rfl<|Te<|Cs<|Cr<|Ts rfl (sF rfl fld48_3)<|Ts rfl (sL 0 rfl one46 rfl rfl) ?_
   refine Ts rfl (sE rfl sl46)<|M rfl rfl<|Te<|Cb ?_
   have O : a.Kids.length ≤ 9223372036854775807 := (FZ.bd f)
   obtain ⟨⟨k, l⟩, y, z⟩ := bS hm
   refine cS (fun q => unc2 fun k l => fun n e' hp' => [(2, iv k), (3, iv l), (9, sv c a.Kids d), (10, iv ((a.Kids.length : Int))), (11, iv ((q : Int)))] = e' ∧ R = hp' ∧ b.Le n) y ⟨rfl, rfl, lr⟩ (.cons _ (.refl _)) ?_ ?_
   rintro q ⟨k, l⟩ n _ _ S T ⟨rfl, rfl, m⟩ r
   unfold mFareCondSize_L114 at r
   have hm := (unc2E r)
   refine Cr<|Ts rfl (lT rfl rfl (by omega))<|Te<|Cs<|c_cond_t rfl<|Ck<|Xn<|Cs<|Cb<|Cr ?_
   obtain ⟨e, A, hm⟩ := bS hm
   obtain ⟨B, C, D⟩ := iS A
   obtain ⟨U, E, F, s, G⟩ := FZ.get (sz := 4) rfl (by decide) (f.le m) D
   obtain ⟨_, _, rfl, rfl, ⟨_, _, rfl, rfl, ⟨_, _, rfl, rfl, ⟨t, x, rfl, H⟩⟩⟩⟩ := E
   refine Ts rfl (sI B rfl rfl C G s sl46)<|Ts rfl (sP (vs := [iv e.Kind, iv e.A, iv e.B, sv t e.Kids x]) 4 rfl agg48 s rfl (fun j u hu => F j u hu))<|Do rfl (uA [iv 0, iv 0, iv 0, sn] zero48 rfl) ?_
   rintro _ _ ⟨V, rfl, rfl⟩
   refine Do rfl (uN (vs := [_, _, _, _]) 0 4 rfl rfl rfl siz48 rfl (mc rfl (mc rfl (mc rfl (mc rfl mn)))) rfl (by simp)) ?_
   rintro _ _ rfl
   refine Te<|Cr<|Ts rfl (sD (vs := [_, _, _, _]) 0 4 rfl agg48 rfl rfl rfl) ?_
   obtain ⟨⟨I, J⟩, K, hm⟩ := bS hm
   have hm := (unc2E hm)
   refine Do rfl (uW _ call48 rfl (fun w ho => ih _ [] e t x ((rFareCond_in H).old ho) I J K) (fun _ _ _ h => h.2.symm)) ?_
   rintro _ _ ⟨⟨_, rfl, _⟩, rfl⟩
   refine M rfl rfl<|Ts rfl (st_extract rfl rfl)<|Ts rfl (st_extract rfl rfl)<|As rfl rfl<|As rfl rfl<|Te<|Cr<|M rfl rfl<|M rfl rfl ?_
   obtain ⟨_, o, hm⟩ := bS hm
   have o := (kS o).2
   refine Ts rfl (sa rfl rfl o)<|As rfl rfl<|Te<|Cg<|M rfl rfl<|M rfl rfl<|Ts rfl (st_max rfl rfl)<|As rfl rfl<|Tn<|Xm ?_
   refine Xn<|Cg<|Ts rfl (sa rfl rfl (by omega))<|M rfl rfl<|Tn ?_
   obtain rfl := o1 hm
   exact xS ⟨rfl, rfl, (m)⟩ (.cons _ (.refl _))
   rintro n _ _ ⟨rfl, rfl, m⟩
   have hm := (unc2E z)
   refine Cr<|Ts rfl (lF rfl rfl (by omega))<|Te<|Cs<|c_cond_f rfl<|Ce<|Xe<|Xe<|Xo<|Xn ?_
   refine Cr<|M rfl rfl<|M rfl rfl ?_
   obtain ⟨_, p, hm⟩ := bS hm
   have p := (kS p).2
   refine Ts rfl (sa rfl rfl p)<|As rfl rfl<|As rfl rfl<|Te<|Ct ?_
   obtain ⟨rfl, rfl⟩ := some2 hm
   exact rM (rs := [.tmp 2, .tmp 3]) (vs := [iv k, iv (l + 1)]) ⟨rfl, ⟨rfl, trivial⟩⟩ ⟨rfl, rfl⟩ (.refl _) m

set_option maxRecDepth 20000 in
theorem cFareNumbers (b : Base) (R : Hp) (a : Int) (l : Int) (hm : mFareNumbers a = some l) :
    CallsG Tryz.prog 67 [iv a] b (R) (fun v b' hp' => iv l = v ∧ R = hp') := by
 refine fE 13 Tryz.func67 rfl Tryz.ntmps67 rfl ?_
 unfold mFareNumbers at hm
 refine Cr<|As rfl rfl<|Te<|Cs<|Cr<|M rfl rfl<|Te<|Cb ?_
 obtain ⟨o, p, q⟩ := bS hm
 refine Cj (fun c e' hp' => [(3, iv a), (4, bv o)] = e' ∧ R = hp' ∧ b.Le c) ?_ ?_
 have hm := p
 refine Cr<|Ts rfl (q1 rfl rfl)<|As rfl rfl<|Te ?_
 refine Cc _ rfl (fun d => ?_) (fun d => ?_)
 rw [if_pos (of_decide_eq_true d)] at hm
 refine Ck ?_
 obtain rfl := o1 hm
 exact xJ ⟨rfl, rfl, lr⟩ (.refl _)
 rw [if_neg (of_decide_eq_false d)] at hm
 refine Cr<|Ts rfl (q1 rfl rfl)<|As rfl rfl<|Te ?_
 refine Cc _ rfl (fun e => ?_) (fun e => ?_)
 rw [if_pos (of_decide_eq_true e)] at hm
 refine Ck ?_
 obtain rfl := o1 hm
 exact xJ ⟨rfl, rfl, lr⟩ (.refl _)
 rw [if_neg (of_decide_eq_false e)] at hm
 refine Cr<|Ts rfl (q1 rfl rfl)<|As rfl rfl<|Te ?_
 refine Cc _ rfl (fun f => ?_) (fun f => ?_)
 rw [if_pos (of_decide_eq_true f)] at hm
 refine Ck ?_
 obtain rfl := o1 hm
 exact xJ ⟨rfl, rfl, lr⟩ (.refl _)
 rw [if_neg (of_decide_eq_false f)] at hm
 refine Cg<|Ts rfl (q1 rfl rfl)<|As rfl rfl<|Tn ?_
 obtain rfl := o1 hm
 exact xJ ⟨rfl, rfl, lr⟩ (.refl _)
 rintro c _ _ ⟨rfl, rfl, g⟩
 have hm := q
 refine Cc _ rfl (fun h => ?_) (fun h => ?_)
 rw [if_pos h] at hm
 refine Cr<|As rfl rfl<|Te<|Ct<|Xb<|Xr ?_
 obtain rfl := o1 hm
 exact rM (rs := [.tmp 2]) (vs := [iv 2]) ⟨rfl, trivial⟩ ⟨rfl, rfl⟩ (.refl _) g
 rw [if_neg (fun hh => Bool.noConfusion (hh.symm.trans h))] at hm
 obtain ⟨r, s, t⟩ := bS hm
 refine Cj (fun m e' hp' => [(9, bv r)] = e' ∧ R = hp' ∧ c.Le m) ?_ ?_
 have hm := s
 refine Cr<|Ts rfl (q1 rfl rfl)<|As rfl rfl<|Te ?_
 refine Cc _ rfl (fun i => ?_) (fun i => ?_)
 rw [if_pos (of_decide_eq_true i)] at hm
 refine Ck ?_
 obtain rfl := o1 hm
 exact xJ ⟨rfl, rfl, lr⟩ (.refl _)
 rw [if_neg (of_decide_eq_false i)] at hm
 refine Cr<|Ts rfl (q1 rfl rfl)<|As rfl rfl<|Te ?_
 refine Cc _ rfl (fun j => ?_) (fun j => ?_)
 rw [if_pos (of_decide_eq_true j)] at hm
 refine Ck ?_
 obtain rfl := o1 hm
 exact xJ ⟨rfl, rfl, lr⟩ (.refl _)
 rw [if_neg (of_decide_eq_false j)] at hm
 refine Cg<|Ts rfl (q1 rfl rfl)<|As rfl rfl<|Tn ?_
 obtain rfl := o1 hm
 exact xJ ⟨rfl, rfl, lr⟩ (.refl _)
 rintro m _ _ ⟨rfl, rfl, n⟩
 have hm := t
 refine Cc _ rfl (fun k => ?_) (fun k => ?_)
 rw [if_pos k] at hm
 refine Cr<|As rfl rfl<|Te<|Ct<|Xb<|Xr ?_
 obtain rfl := o1 hm
 exact rM (rs := [.tmp 2]) (vs := [iv 1]) ⟨rfl, trivial⟩ ⟨rfl, rfl⟩ (.refl _) (g.trans n)
 rw [if_neg (fun hh => Bool.noConfusion (hh.symm.trans k))] at hm
 refine Ck<|Xm<|Xn<|Cr<|As rfl rfl<|Te<|Ct ?_
 obtain rfl := o1 hm
 exact rM (rs := [.tmp 2]) (vs := [iv 0]) ⟨rfl, trivial⟩ ⟨rfl, rfl⟩ (.refl _) (g.trans n)

set_option maxRecDepth 20000 in
theorem cFareCondNode : ∀ (N : Nat) (b : Base) (R : Hp) (a : FareCond) (c : OA) (d : Nat) (n : FZ rFareCond b.w c d a.Kids) (o : Int) (hm : mFareCondNode N a = some o),
    CallsG Tryz.prog 49 [.agg #[iv a.Kind, iv a.A, iv a.B, sv c a.Kids d]] b (R) (fun v b' hp' => iv o = v ∧ R = hp') := by
  intro N
  induction N with
  | zero =>
    intro b R a c d n o hm
    unfold mFareCondNode at hm
    cases hm
  | succ N ih =>
   intro b R a c d n o hm
   refine fE 99 Tryz.func49 rfl Tryz.ntmps49 rfl ?_
   unfold mFareCondNode at hm
   refine Cr<|Do rfl (uB _ rfl rfl) ?_
   rintro _ _ ⟨f, rfl, rfl⟩
   refine As rfl rfl<|Te<|Cr<|Ts rfl (sF rfl fld48_0)<|Ts rfl (sL 0 rfl one3 rfl rfl) ?_
   obtain ⟨ab, aj, hm⟩ := bS hm
   refine Do rfl (uW _ call67 rfl (fun w ho => cFareNumbers _ [] a.Kind ab aj) (fun _ _ _ h => h.2.symm)) ?_
   rintro _ _ ⟨⟨_, rfl, _⟩, rfl⟩
   refine As rfl rfl<|Te<|Cs<|Cb<|Cr<|Ts rfl (sF rfl fld48_0)<|Ts rfl (sL 0 rfl one3 rfl rfl) ?_
   obtain ⟨ak, al, hm⟩ := bS hm
   refine Do rfl (uW _ call16 rfl (fun w ho => cFareWithin _ [] a.Kind 0 11 ak al) (fun _ _ _ h => h.2.symm)) ?_
   rintro _ _ ⟨⟨_, rfl, _⟩, rfl⟩
   refine Ts rfl (sn2 rfl)<|As rfl rfl<|Te ?_
   refine Cc _ rfl (fun q => ?_) (fun q => ?_)
   rw [if_neg (fun hh => Bool.noConfusion (hh.symm.trans (nt q)))] at hm
   refine Cr<|As rfl rfl<|Te<|Ct<|Xb<|Xr ?_
   obtain rfl := o1 hm
   exact rM (rs := [.tmp 2]) (vs := [iv 15]) ⟨rfl, trivial⟩ ⟨rfl, rfl⟩ (.cons _ (.refl _)) lr
   rw [if_pos (nf q)] at hm
   obtain ⟨am, an, ao⟩ := bS hm
   refine Cj (fun r e' hp' => [(1, pb f), (3, iv ab), (15, bv am)] = e' ∧ (f, Cl 48 [iv a.Kind, iv a.A, iv a.B, sv c a.Kids d]) :: R = hp' ∧ b.Le r) ?_ ?_
   have hm := an
   refine Cg<|Ts rfl (sF rfl fld48_1)<|Ts rfl (sL 0 rfl one3 rfl rfl) ?_
   obtain ⟨ac, aq, hm⟩ := bS hm
   refine Do rfl (uW _ call16 rfl (fun w ho => cFareWithin _ [] a.A 0 28800 ac aq) (fun _ _ _ h => h.2.symm)) ?_
   rintro _ _ ⟨⟨_, rfl, _⟩, rfl⟩
   rcases Bool.eq_false_or_eq_true ac with i | i
   rw [if_pos i] at hm
   refine Tr 18 rfl (v' := .bool true) (by rw [i] <;> rfl)<|Ts rfl (st_not_t rfl)<|M rfl rfl<|Ys 20 rfl rfl rfl<|Ts rfl (sF rfl fld48_2)<|Ys 20 rfl rfl rfl<|Ts rfl (sL 0 rfl one3 rfl rfl)<|Ys 20 rfl rfl rfl ?_
   obtain ⟨ar, au, hm⟩ := bS hm
   refine Do rfl (uW _ call16 rfl (fun w ho => cFareWithin _ [] a.B 0 28800 ar au) (fun _ _ _ h => h.2.symm)) ?_
   rintro _ _ ⟨⟨_, rfl, _⟩, rfl⟩
   refine Ys 20 rfl rfl rfl<|Ts rfl (sn2 rfl)<|Ts rfl (pF rfl rfl)<|As rfl rfl<|Tn ?_
   obtain rfl := o1 hm
   exact xJ ⟨rfl, rfl, lr⟩ (.refl _)
   rw [if_neg (fun hh => Bool.noConfusion (hh.symm.trans i))] at hm
   refine Tr 18 rfl (v' := .bool false) (by rw [i] <;> rfl)<|Ts rfl (st_not_f rfl)<|M rfl rfl<|No 20 rfl rfl rfl rfl rfl<|No 20 rfl rfl rfl rfl rfl<|No 20 rfl rfl rfl rfl rfl<|No 20 rfl rfl rfl rfl rfl<|Ts rfl (pT rfl rfl)<|As rfl rfl<|Tn ?_
   obtain rfl := o1 hm
   exact xJ ⟨rfl, rfl, lr⟩ (.refl _)
   rintro r _ _ ⟨rfl, rfl, e⟩
   have hm := ao
   refine Cc _ rfl (fun s => ?_) (fun s => ?_)
   rw [if_pos s] at hm
   refine Cr<|As rfl rfl<|Te<|Ct<|Xb<|Xr ?_
   obtain rfl := o1 hm
   exact rM (rs := [.tmp 2]) (vs := [iv 2]) ⟨rfl, trivial⟩ ⟨rfl, rfl⟩ (.cons _ (.refl _)) e
   rw [if_neg (fun hh => Bool.noConfusion (hh.symm.trans s))] at hm
   obtain ⟨av, aw, ax⟩ := bS hm
   refine Cj (fun t e' hp' => [(1, pb f), (26, bv av)] = e' ∧ (f, Cl 48 [iv a.Kind, iv a.A, iv a.B, sv c a.Kids d]) :: R = hp' ∧ r.Le t) ?_ ?_
   have hm := aw
   refine Cg<|M rfl rfl ?_
   refine Tb rfl (q3 rfl rfl) (fun x => ?_) (fun x => ?_)
   rw [if_pos x] at hm
   refine M rfl rfl<|Ys 29 rfl rfl rfl<|Ts rfl (sF rfl fld48_1)<|Ys 29 rfl rfl rfl<|Ts rfl (sL 0 rfl one3 rfl rfl)<|Ys 29 rfl rfl rfl ?_
   refine Tb rfl (q2 rfl rfl) (fun y => ?_) (fun y => ?_)
   rw [if_pos y] at hm
   refine Ts rfl (pT rfl rfl)<|M rfl rfl<|No 34 rfl rfl rfl rfl rfl<|No 34 rfl rfl rfl rfl rfl<|No 34 rfl rfl rfl rfl rfl<|No 37 rfl rfl rfl rfl rfl<|No 37 rfl rfl rfl rfl rfl<|No 37 rfl rfl rfl rfl rfl<|No 34 rfl rfl rfl rfl rfl<|Ts rfl (pT rfl rfl) ?_
   refine M rfl rfl<|No 43 rfl rfl rfl rfl rfl<|No 43 rfl rfl rfl rfl rfl<|No 43 rfl rfl rfl rfl rfl<|No 46 rfl rfl rfl rfl rfl<|No 46 rfl rfl rfl rfl rfl<|No 46 rfl rfl rfl rfl rfl<|No 46 rfl rfl rfl rfl rfl<|No 46 rfl rfl rfl rfl rfl<|No 43 rfl rfl rfl rfl rfl ?_
   refine Ts rfl (pT rfl rfl)<|As rfl rfl<|Tn ?_
   obtain rfl := o1 hm
   exact xJ ⟨rfl, rfl, lr⟩ (.refl _)
   rw [if_neg y] at hm
   refine Ts rfl (pT rfl rfl)<|M rfl rfl<|Ys 34 rfl rfl rfl<|M rfl rfl<|Ys 34 rfl rfl rfl ?_
   refine Tb rfl (q3 rfl rfl) (fun z => ?_) (fun z => ?_)
   rw [if_pos z] at hm
   refine Ys 34 rfl rfl rfl<|M rfl rfl<|Ys 37 rfl rfl rfl<|Ts rfl (sF rfl fld48_2)<|Ys 37 rfl rfl rfl<|Ts rfl (sL 0 rfl one3 rfl rfl)<|Ys 37 rfl rfl rfl ?_
   refine Tb rfl (q2 rfl rfl) (fun A => ?_) (fun A => ?_)
   rw [if_pos A] at hm
   refine Ys 34 rfl rfl rfl<|Ts rfl (pT rfl rfl)<|Ts rfl (pF rfl rfl)<|M rfl rfl<|No 43 rfl rfl rfl rfl rfl<|No 43 rfl rfl rfl rfl rfl<|No 43 rfl rfl rfl rfl rfl<|No 46 rfl rfl rfl rfl rfl<|No 46 rfl rfl rfl rfl rfl<|No 46 rfl rfl rfl rfl rfl ?_
   refine No 46 rfl rfl rfl rfl rfl<|No 46 rfl rfl rfl rfl rfl<|No 43 rfl rfl rfl rfl rfl<|Ts rfl (pT rfl rfl)<|As rfl rfl<|Tn ?_
   obtain rfl := o1 hm
   exact xJ ⟨rfl, rfl, lr⟩ (.refl _)
   rw [if_neg A] at hm
   refine Ys 34 rfl rfl rfl<|Ts rfl (pT rfl rfl)<|Ts rfl (pF rfl rfl)<|M rfl rfl<|Ys 43 rfl rfl rfl<|M rfl rfl<|Ys 43 rfl rfl rfl ?_
   refine Tb rfl (q1 rfl rfl) (fun B => ?_) (fun B => ?_)
   rw [if_pos B] at hm
   refine Ys 43 rfl rfl rfl<|M rfl rfl<|Ys 46 rfl rfl rfl<|Ts rfl (sF rfl fld48_1)<|Ys 46 rfl rfl rfl<|Ts rfl (sL 0 rfl one3 rfl rfl)<|Ys 46 rfl rfl rfl<|Ts rfl (sF rfl fld48_2)<|Ys 46 rfl rfl rfl<|Ts rfl (sL 0 rfl one3 rfl rfl) ?_
   refine Ys 46 rfl rfl rfl<|Ts rfl (q5 rfl rfl)<|Ys 43 rfl rfl rfl<|Ts rfl (pT rfl rfl)<|Ts rfl (pF rfl rfl)<|As rfl rfl<|Tn ?_
   obtain rfl := o1 hm
   exact xJ ⟨rfl, rfl, lr⟩ (.refl _)
   rw [if_neg B] at hm
   refine Ys 43 rfl rfl rfl<|M rfl rfl<|No 46 rfl rfl rfl rfl rfl<|No 46 rfl rfl rfl rfl rfl<|No 46 rfl rfl rfl rfl rfl<|No 46 rfl rfl rfl rfl rfl<|No 46 rfl rfl rfl rfl rfl<|Ys 43 rfl rfl rfl<|Ts rfl (pF rfl rfl)<|Ts rfl (pF rfl rfl) ?_
   refine As rfl rfl<|Tn ?_
   obtain rfl := o1 hm
   exact xJ ⟨rfl, rfl, lr⟩ (.refl _)
   rw [if_neg z] at hm
   refine Ys 34 rfl rfl rfl<|M rfl rfl<|No 37 rfl rfl rfl rfl rfl<|No 37 rfl rfl rfl rfl rfl<|No 37 rfl rfl rfl rfl rfl<|Ys 34 rfl rfl rfl<|Ts rfl (pF rfl rfl)<|Ts rfl (pF rfl rfl)<|M rfl rfl<|Ys 43 rfl rfl rfl ?_
   refine M rfl rfl<|Ys 43 rfl rfl rfl ?_
   refine Tb rfl (q1 rfl rfl) (fun C => ?_) (fun C => ?_)
   rw [if_pos C] at hm
   refine Ys 43 rfl rfl rfl<|M rfl rfl<|Ys 46 rfl rfl rfl<|Ts rfl (sF rfl fld48_1)<|Ys 46 rfl rfl rfl<|Ts rfl (sL 0 rfl one3 rfl rfl)<|Ys 46 rfl rfl rfl<|Ts rfl (sF rfl fld48_2)<|Ys 46 rfl rfl rfl<|Ts rfl (sL 0 rfl one3 rfl rfl) ?_
   refine Ys 46 rfl rfl rfl<|Ts rfl (q5 rfl rfl)<|Ys 43 rfl rfl rfl<|Ts rfl (pT rfl rfl)<|Ts rfl (pF rfl rfl)<|As rfl rfl<|Tn ?_
   obtain rfl := o1 hm
   exact xJ ⟨rfl, rfl, lr⟩ (.refl _)
   rw [if_neg C] at hm
   refine Ys 43 rfl rfl rfl<|M rfl rfl<|No 46 rfl rfl rfl rfl rfl<|No 46 rfl rfl rfl rfl rfl<|No 46 rfl rfl rfl rfl rfl<|No 46 rfl rfl rfl rfl rfl<|No 46 rfl rfl rfl rfl rfl<|Ys 43 rfl rfl rfl<|Ts rfl (pF rfl rfl)<|Ts rfl (pF rfl rfl) ?_
   refine As rfl rfl<|Tn ?_
   obtain rfl := o1 hm
   exact xJ ⟨rfl, rfl, lr⟩ (.refl _)
   rw [if_neg x] at hm
   refine M rfl rfl<|No 29 rfl rfl rfl rfl rfl<|No 29 rfl rfl rfl rfl rfl<|No 29 rfl rfl rfl rfl rfl<|Ts rfl (pF rfl rfl)<|M rfl rfl<|Ys 34 rfl rfl rfl<|M rfl rfl<|Ys 34 rfl rfl rfl ?_
   refine Tb rfl (q3 rfl rfl) (fun D => ?_) (fun D => ?_)
   rw [if_pos D] at hm
   refine Ys 34 rfl rfl rfl<|M rfl rfl<|Ys 37 rfl rfl rfl<|Ts rfl (sF rfl fld48_2)<|Ys 37 rfl rfl rfl<|Ts rfl (sL 0 rfl one3 rfl rfl)<|Ys 37 rfl rfl rfl ?_
   refine Tb rfl (q2 rfl rfl) (fun E => ?_) (fun E => ?_)
   rw [if_pos E] at hm
   refine Ys 34 rfl rfl rfl<|Ts rfl (pT rfl rfl)<|Ts rfl (pF rfl rfl)<|M rfl rfl<|No 43 rfl rfl rfl rfl rfl<|No 43 rfl rfl rfl rfl rfl<|No 43 rfl rfl rfl rfl rfl<|No 46 rfl rfl rfl rfl rfl<|No 46 rfl rfl rfl rfl rfl<|No 46 rfl rfl rfl rfl rfl ?_
   refine No 46 rfl rfl rfl rfl rfl<|No 46 rfl rfl rfl rfl rfl<|No 43 rfl rfl rfl rfl rfl<|Ts rfl (pT rfl rfl)<|As rfl rfl<|Tn ?_
   obtain rfl := o1 hm
   exact xJ ⟨rfl, rfl, lr⟩ (.refl _)
   rw [if_neg E] at hm
   refine Ys 34 rfl rfl rfl<|Ts rfl (pT rfl rfl)<|Ts rfl (pF rfl rfl)<|M rfl rfl<|Ys 43 rfl rfl rfl<|M rfl rfl<|Ys 43 rfl rfl rfl ?_
   refine Tb rfl (q1 rfl rfl) (fun F => ?_) (fun F => ?_)
   rw [if_pos F] at hm
   refine Ys 43 rfl rfl rfl<|M rfl rfl<|Ys 46 rfl rfl rfl<|Ts rfl (sF rfl fld48_1)<|Ys 46 rfl rfl rfl<|Ts rfl (sL 0 rfl one3 rfl rfl)<|Ys 46 rfl rfl rfl<|Ts rfl (sF rfl fld48_2)<|Ys 46 rfl rfl rfl<|Ts rfl (sL 0 rfl one3 rfl rfl) ?_
   refine Ys 46 rfl rfl rfl<|Ts rfl (q5 rfl rfl)<|Ys 43 rfl rfl rfl<|Ts rfl (pT rfl rfl)<|Ts rfl (pF rfl rfl)<|As rfl rfl<|Tn ?_
   obtain rfl := o1 hm
   exact xJ ⟨rfl, rfl, lr⟩ (.refl _)
   rw [if_neg F] at hm
   refine Ys 43 rfl rfl rfl<|M rfl rfl<|No 46 rfl rfl rfl rfl rfl<|No 46 rfl rfl rfl rfl rfl<|No 46 rfl rfl rfl rfl rfl<|No 46 rfl rfl rfl rfl rfl<|No 46 rfl rfl rfl rfl rfl<|Ys 43 rfl rfl rfl<|Ts rfl (pF rfl rfl)<|Ts rfl (pF rfl rfl) ?_
   refine As rfl rfl<|Tn ?_
   obtain rfl := o1 hm
   exact xJ ⟨rfl, rfl, lr⟩ (.refl _)
   rw [if_neg D] at hm
   refine Ys 34 rfl rfl rfl<|M rfl rfl<|No 37 rfl rfl rfl rfl rfl<|No 37 rfl rfl rfl rfl rfl<|No 37 rfl rfl rfl rfl rfl<|Ys 34 rfl rfl rfl<|Ts rfl (pF rfl rfl)<|Ts rfl (pF rfl rfl)<|M rfl rfl<|Ys 43 rfl rfl rfl ?_
   refine M rfl rfl<|Ys 43 rfl rfl rfl ?_
   refine Tb rfl (q1 rfl rfl) (fun G => ?_) (fun G => ?_)
   rw [if_pos G] at hm
   refine Ys 43 rfl rfl rfl<|M rfl rfl<|Ys 46 rfl rfl rfl<|Ts rfl (sF rfl fld48_1)<|Ys 46 rfl rfl rfl<|Ts rfl (sL 0 rfl one3 rfl rfl)<|Ys 46 rfl rfl rfl<|Ts rfl (sF rfl fld48_2)<|Ys 46 rfl rfl rfl<|Ts rfl (sL 0 rfl one3 rfl rfl) ?_
   refine Ys 46 rfl rfl rfl<|Ts rfl (q5 rfl rfl)<|Ys 43 rfl rfl rfl<|Ts rfl (pT rfl rfl)<|Ts rfl (pF rfl rfl)<|As rfl rfl<|Tn ?_
   obtain rfl := o1 hm
   exact xJ ⟨rfl, rfl, lr⟩ (.refl _)
   rw [if_neg G] at hm
   refine Ys 43 rfl rfl rfl<|M rfl rfl<|No 46 rfl rfl rfl rfl rfl<|No 46 rfl rfl rfl rfl rfl<|No 46 rfl rfl rfl rfl rfl<|No 46 rfl rfl rfl rfl rfl<|No 46 rfl rfl rfl rfl rfl<|Ys 43 rfl rfl rfl<|Ts rfl (pF rfl rfl)<|Ts rfl (pF rfl rfl) ?_
   refine As rfl rfl<|Tn ?_
   obtain rfl := o1 hm
   exact xJ ⟨rfl, rfl, lr⟩ (.refl _)
   rintro t _ _ ⟨rfl, rfl, g⟩
   have hm := ax
   refine Cc _ rfl (fun H => ?_) (fun H => ?_)
   rw [if_pos H] at hm
   refine Cr<|As rfl rfl<|Te<|Ct<|Xb<|Xr ?_
   obtain rfl := o1 hm
   exact rM (rs := [.tmp 2]) (vs := [iv 1]) ⟨rfl, trivial⟩ ⟨rfl, rfl⟩ (.cons _ (.refl _)) (e.trans g)
   rw [if_neg (fun hh => Bool.noConfusion (hh.symm.trans H))] at hm
   obtain ⟨ay, az, aA⟩ := bS hm
   refine Cj (fun I e' hp' => [(1, pb f), (54, bv ay)] = e' ∧ (f, Cl 48 [iv a.Kind, iv a.A, iv a.B, sv c a.Kids d]) :: R = hp' ∧ t.Le I) ?_ ?_
   have hm := az
   refine Cg<|Ts rfl (sF rfl fld48_0)<|Ts rfl (sL 0 rfl one3 rfl rfl) ?_
   refine Tb rfl (q1 rfl rfl) (fun J => ?_) (fun J => ?_)
   rw [if_pos J] at hm
   refine M rfl rfl<|Ys 58 rfl rfl rfl<|Ts rfl (sF rfl fld48_3)<|Ys 58 rfl rfl rfl<|Ts rfl (sL 0 rfl one46 rfl rfl)<|Ys 58 rfl rfl rfl<|Ts rfl (sE rfl sl46)<|Ys 58 rfl rfl rfl ?_
   refine Tb rfl (q2 rfl rfl) (fun K => ?_) (fun K => ?_)
   rw [if_pos K] at hm
   refine Ts rfl (pT rfl rfl)<|M rfl rfl<|No 64 rfl rfl rfl rfl rfl<|No 64 rfl rfl rfl rfl rfl<|No 64 rfl rfl rfl rfl rfl<|No 64 rfl rfl rfl rfl rfl<|No 68 rfl rfl rfl rfl rfl<|No 68 rfl rfl rfl rfl rfl<|No 68 rfl rfl rfl rfl rfl<|No 68 rfl rfl rfl rfl rfl ?_
   refine No 64 rfl rfl rfl rfl rfl<|Ts rfl (pT rfl rfl)<|M rfl rfl<|No 75 rfl rfl rfl rfl rfl<|No 75 rfl rfl rfl rfl rfl<|No 75 rfl rfl rfl rfl rfl<|No 75 rfl rfl rfl rfl rfl<|No 79 rfl rfl rfl rfl rfl<|No 79 rfl rfl rfl rfl rfl<|No 79 rfl rfl rfl rfl rfl ?_
   refine No 79 rfl rfl rfl rfl rfl<|No 75 rfl rfl rfl rfl rfl<|Ts rfl (pT rfl rfl)<|As rfl rfl<|Tn ?_
   obtain rfl := o1 hm
   exact xJ ⟨rfl, rfl, lr⟩ (.refl _)
   rw [if_neg K] at hm
   refine Ts rfl (pT rfl rfl)<|M rfl rfl<|Ys 64 rfl rfl rfl<|Ts rfl (sF rfl fld48_0)<|Ys 64 rfl rfl rfl<|Ts rfl (sL 0 rfl one3 rfl rfl)<|Ys 64 rfl rfl rfl ?_
   refine Tb rfl (q5 rfl rfl) (fun L => ?_) (fun L => ?_)
   rw [if_pos L] at hm
   refine Ys 64 rfl rfl rfl<|M rfl rfl<|Ys 68 rfl rfl rfl<|Ts rfl (sF rfl fld48_3)<|Ys 68 rfl rfl rfl<|Ts rfl (sL 0 rfl one46 rfl rfl)<|Ys 68 rfl rfl rfl<|Ts rfl (sE rfl sl46)<|Ys 68 rfl rfl rfl ?_
   refine Tb rfl (q3 rfl rfl) (fun O => ?_) (fun O => ?_)
   rw [if_pos O] at hm
   refine Ys 64 rfl rfl rfl<|Ts rfl (pT rfl rfl)<|Ts rfl (pF rfl rfl)<|M rfl rfl<|No 75 rfl rfl rfl rfl rfl<|No 75 rfl rfl rfl rfl rfl<|No 75 rfl rfl rfl rfl rfl<|No 75 rfl rfl rfl rfl rfl<|No 79 rfl rfl rfl rfl rfl<|No 79 rfl rfl rfl rfl rfl ?_
   refine No 79 rfl rfl rfl rfl rfl<|No 79 rfl rfl rfl rfl rfl<|No 75 rfl rfl rfl rfl rfl<|Ts rfl (pT rfl rfl)<|As rfl rfl<|Tn ?_
   obtain rfl := o1 hm
   exact xJ ⟨rfl, rfl, lr⟩ (.refl _)
   rw [if_neg O] at hm
   refine Ys 64 rfl rfl rfl<|Ts rfl (pT rfl rfl)<|Ts rfl (pF rfl rfl)<|M rfl rfl<|Ys 75 rfl rfl rfl<|Ts rfl (sF rfl fld48_0)<|Ys 75 rfl rfl rfl<|Ts rfl (sL 0 rfl one3 rfl rfl)<|Ys 75 rfl rfl rfl ?_
   refine Tb rfl (q3 rfl rfl) (fun S => ?_) (fun S => ?_)
   rw [if_pos S] at hm
   refine Ys 75 rfl rfl rfl<|M rfl rfl<|Ys 79 rfl rfl rfl<|Ts rfl (sF rfl fld48_3)<|Ys 79 rfl rfl rfl<|Ts rfl (sL 0 rfl one46 rfl rfl)<|Ys 79 rfl rfl rfl<|Ts rfl (sE rfl sl46)<|Ys 79 rfl rfl rfl<|Ts rfl (q5 rfl rfl) ?_
   refine Ys 75 rfl rfl rfl<|Ts rfl (pT rfl rfl)<|Ts rfl (pF rfl rfl)<|As rfl rfl<|Tn ?_
   obtain rfl := o1 hm
   exact xJ ⟨rfl, rfl, lr⟩ (.refl _)
   rw [if_neg S] at hm
   refine Ys 75 rfl rfl rfl<|M rfl rfl<|No 79 rfl rfl rfl rfl rfl<|No 79 rfl rfl rfl rfl rfl<|No 79 rfl rfl rfl rfl rfl<|No 79 rfl rfl rfl rfl rfl<|Ys 75 rfl rfl rfl<|Ts rfl (pF rfl rfl)<|Ts rfl (pF rfl rfl)<|As rfl rfl ?_
   refine Tn ?_
   obtain rfl := o1 hm
   exact xJ ⟨rfl, rfl, lr⟩ (.refl _)
   rw [if_neg L] at hm
   refine Ys 64 rfl rfl rfl<|M rfl rfl<|No 68 rfl rfl rfl rfl rfl<|No 68 rfl rfl rfl rfl rfl<|No 68 rfl rfl rfl rfl rfl<|No 68 rfl rfl rfl rfl rfl<|Ys 64 rfl rfl rfl<|Ts rfl (pF rfl rfl)<|Ts rfl (pF rfl rfl)<|M rfl rfl ?_
   refine Ys 75 rfl rfl rfl<|Ts rfl (sF rfl fld48_0)<|Ys 75 rfl rfl rfl<|Ts rfl (sL 0 rfl one3 rfl rfl)<|Ys 75 rfl rfl rfl ?_
   refine Tb rfl (q3 rfl rfl) (fun T => ?_) (fun T => ?_)
   rw [if_pos T] at hm
   refine Ys 75 rfl rfl rfl<|M rfl rfl<|Ys 79 rfl rfl rfl<|Ts rfl (sF rfl fld48_3)<|Ys 79 rfl rfl rfl<|Ts rfl (sL 0 rfl one46 rfl rfl)<|Ys 79 rfl rfl rfl<|Ts rfl (sE rfl sl46)<|Ys 79 rfl rfl rfl<|Ts rfl (q5 rfl rfl) ?_
   refine Ys 75 rfl rfl rfl<|Ts rfl (pT rfl rfl)<|Ts rfl (pF rfl rfl)<|As rfl rfl<|Tn ?_
   obtain rfl := o1 hm
   exact xJ ⟨rfl, rfl, lr⟩ (.refl _)
   rw [if_neg T] at hm
   refine Ys 75 rfl rfl rfl<|M rfl rfl<|No 79 rfl rfl rfl rfl rfl<|No 79 rfl rfl rfl rfl rfl<|No 79 rfl rfl rfl rfl rfl<|No 79 rfl rfl rfl rfl rfl<|Ys 75 rfl rfl rfl<|Ts rfl (pF rfl rfl)<|Ts rfl (pF rfl rfl)<|As rfl rfl ?_
   refine Tn ?_
   obtain rfl := o1 hm
   exact xJ ⟨rfl, rfl, lr⟩ (.refl _)
   rw [if_neg J] at hm
   refine M rfl rfl<|No 58 rfl rfl rfl rfl rfl<|No 58 rfl rfl rfl rfl rfl<|No 58 rfl rfl rfl rfl rfl<|No 58 rfl rfl rfl rfl rfl<|Ts rfl (pF rfl rfl)<|M rfl rfl<|Ys 64 rfl rfl rfl<|Ts rfl (sF rfl fld48_0)<|Ys 64 rfl rfl rfl ?_
   refine Ts rfl (sL 0 rfl one3 rfl rfl)<|Ys 64 rfl rfl rfl ?_
   refine Tb rfl (q5 rfl rfl) (fun U => ?_) (fun U => ?_)
   rw [if_pos U] at hm
   refine Ys 64 rfl rfl rfl<|M rfl rfl<|Ys 68 rfl rfl rfl<|Ts rfl (sF rfl fld48_3)<|Ys 68 rfl rfl rfl<|Ts rfl (sL 0 rfl one46 rfl rfl)<|Ys 68 rfl rfl rfl<|Ts rfl (sE rfl sl46)<|Ys 68 rfl rfl rfl ?_
   refine Tb rfl (q3 rfl rfl) (fun V => ?_) (fun V => ?_)
   rw [if_pos V] at hm
   refine Ys 64 rfl rfl rfl<|Ts rfl (pT rfl rfl)<|Ts rfl (pF rfl rfl)<|M rfl rfl<|No 75 rfl rfl rfl rfl rfl<|No 75 rfl rfl rfl rfl rfl<|No 75 rfl rfl rfl rfl rfl<|No 75 rfl rfl rfl rfl rfl<|No 79 rfl rfl rfl rfl rfl<|No 79 rfl rfl rfl rfl rfl ?_
   refine No 79 rfl rfl rfl rfl rfl<|No 79 rfl rfl rfl rfl rfl<|No 75 rfl rfl rfl rfl rfl<|Ts rfl (pT rfl rfl)<|As rfl rfl<|Tn ?_
   obtain rfl := o1 hm
   exact xJ ⟨rfl, rfl, lr⟩ (.refl _)
   rw [if_neg V] at hm
   refine Ys 64 rfl rfl rfl<|Ts rfl (pT rfl rfl)<|Ts rfl (pF rfl rfl)<|M rfl rfl<|Ys 75 rfl rfl rfl<|Ts rfl (sF rfl fld48_0)<|Ys 75 rfl rfl rfl<|Ts rfl (sL 0 rfl one3 rfl rfl)<|Ys 75 rfl rfl rfl ?_
   refine Tb rfl (q3 rfl rfl) (fun W => ?_) (fun W => ?_)
   rw [if_pos W] at hm
   refine Ys 75 rfl rfl rfl<|M rfl rfl<|Ys 79 rfl rfl rfl<|Ts rfl (sF rfl fld48_3)<|Ys 79 rfl rfl rfl<|Ts rfl (sL 0 rfl one46 rfl rfl)<|Ys 79 rfl rfl rfl<|Ts rfl (sE rfl sl46)<|Ys 79 rfl rfl rfl<|Ts rfl (q5 rfl rfl) ?_
   refine Ys 75 rfl rfl rfl<|Ts rfl (pT rfl rfl)<|Ts rfl (pF rfl rfl)<|As rfl rfl<|Tn ?_
   obtain rfl := o1 hm
   exact xJ ⟨rfl, rfl, lr⟩ (.refl _)
   rw [if_neg W] at hm
   refine Ys 75 rfl rfl rfl<|M rfl rfl<|No 79 rfl rfl rfl rfl rfl<|No 79 rfl rfl rfl rfl rfl<|No 79 rfl rfl rfl rfl rfl<|No 79 rfl rfl rfl rfl rfl<|Ys 75 rfl rfl rfl<|Ts rfl (pF rfl rfl)<|Ts rfl (pF rfl rfl)<|As rfl rfl ?_
   refine Tn ?_
   obtain rfl := o1 hm
   exact xJ ⟨rfl, rfl, lr⟩ (.refl _)
   rw [if_neg U] at hm
   refine Ys 64 rfl rfl rfl<|M rfl rfl<|No 68 rfl rfl rfl rfl rfl<|No 68 rfl rfl rfl rfl rfl<|No 68 rfl rfl rfl rfl rfl<|No 68 rfl rfl rfl rfl rfl<|Ys 64 rfl rfl rfl<|Ts rfl (pF rfl rfl)<|Ts rfl (pF rfl rfl)<|M rfl rfl ?_
   refine Ys 75 rfl rfl rfl<|Ts rfl (sF rfl fld48_0)<|Ys 75 rfl rfl rfl<|Ts rfl (sL 0 rfl one3 rfl rfl)<|Ys 75 rfl rfl rfl ?_
   refine Tb rfl (q3 rfl rfl) (fun X => ?_) (fun X => ?_)
   rw [if_pos X] at hm
   refine Ys 75 rfl rfl rfl<|M rfl rfl<|Ys 79 rfl rfl rfl<|Ts rfl (sF rfl fld48_3)<|Ys 79 rfl rfl rfl<|Ts rfl (sL 0 rfl one46 rfl rfl)<|Ys 79 rfl rfl rfl<|Ts rfl (sE rfl sl46)<|Ys 79 rfl rfl rfl<|Ts rfl (q5 rfl rfl) ?_
   refine Ys 75 rfl rfl rfl<|Ts rfl (pT rfl rfl)<|Ts rfl (pF rfl rfl)<|As rfl rfl<|Tn ?_
   obtain rfl := o1 hm
   exact xJ ⟨rfl, rfl, lr⟩ (.refl _)
   rw [if_neg X] at hm
   refine Ys 75 rfl rfl rfl<|M rfl rfl<|No 79 rfl rfl rfl rfl rfl<|No 79 rfl rfl rfl rfl rfl<|No 79 rfl rfl rfl rfl rfl<|No 79 rfl rfl rfl rfl rfl<|Ys 75 rfl rfl rfl<|Ts rfl (pF rfl rfl)<|Ts rfl (pF rfl rfl)<|As rfl rfl ?_
   refine Tn ?_
   obtain rfl := o1 hm
   exact xJ ⟨rfl, rfl, lr⟩ (.refl _)
   rintro I _ _ ⟨rfl, rfl, k⟩
   have hm := aA
   refine Cc _ rfl (fun Y => ?_) (fun Y => ?_)
   rw [if_pos Y] at hm
   refine Cr<|As rfl rfl<|Te<|Ct<|Xb<|Xr ?_
   obtain rfl := o1 hm
   exact rM (rs := [.tmp 2]) (vs := [iv 1]) ⟨rfl, trivial⟩ ⟨rfl, rfl⟩ (.cons _ (.refl _)) (e.trans (g.trans k))
   rw [if_neg (fun hh => Bool.noConfusion (hh.symm.trans Y))] at hm
   refine Ck<|Xm<|Xn<|Cs<|Cr<|Ts rfl (sF rfl fld48_3)<|Ts rfl (sL 0 rfl one46 rfl rfl)<|Ts rfl (sE rfl sl46)<|M rfl rfl<|Te ?_
   refine Cb ?_
   have aO : a.Kids.length ≤ 9223372036854775807 := (FZ.bd (n.le (e.trans (g.trans k))))
   obtain ⟨aP, aB, p⟩ := bS hm
   refine cF (fun ad => fun _ => fun Z e' hp' => [(87, sv c a.Kids d), (88, iv ((a.Kids.length : Int))), (89, iv ((ad : Int)))] = e' ∧ R = hp' ∧ I.Le Z) aB ⟨rfl, rfl, lr⟩ (.cons _ (.refl _)) ?_ ?_
   rintro ad _ Z _ _ aQ aR ⟨rfl, rfl, l⟩ ae aC
   unfold mFareCondNode_L301 at ae
   have hm := ae
   refine Cr<|Ts rfl (lT rfl rfl (by omega))<|Te<|Cs<|c_cond_t rfl<|Ck<|Xn<|Cs<|Cb<|Cr ?_
   obtain ⟨m, aD, hm⟩ := bS hm
   obtain ⟨aE, aF, aG⟩ := iS aD
   obtain ⟨aS, aH, aI, af, aJ⟩ := FZ.get (sz := 4) rfl (by decide) (n.le (e.trans (g.trans (k.trans l)))) aG
   obtain ⟨_, _, rfl, rfl, ⟨_, _, rfl, rfl, ⟨_, _, rfl, rfl, ⟨ag, ah, rfl, aK⟩⟩⟩⟩ := aH
   refine Ts rfl (sI aE rfl rfl aF aJ af sl46)<|Ts rfl (sP (vs := [iv m.Kind, iv m.A, iv m.B, sv ag m.Kids ah]) 4 rfl agg48 af rfl (fun j u hu => aI j u hu))<|Do rfl (uA [iv 0, iv 0, iv 0, sn] zero48 rfl) ?_
   rintro _ _ ⟨aT, rfl, rfl⟩
   refine Do rfl (uN (vs := [_, _, _, _]) 0 4 rfl rfl rfl siz48 rfl (mc rfl (mc rfl (mc rfl (mc rfl mn)))) rfl (by simp)) ?_
   rintro _ _ rfl
   refine Te<|Cr<|Ts rfl (sD (vs := [_, _, _, _]) 0 4 rfl agg48 rfl rfl rfl) ?_
   obtain ⟨ai, aL, hm⟩ := bS hm
   refine Do rfl (uW _ call49 rfl (fun w ho => ih _ [] m ag ah ((rFareCond_in aK).old ho) ai aL) (fun _ _ _ h => h.2.symm)) ?_
   rintro _ _ ⟨⟨_, rfl, _⟩, rfl⟩
   refine As rfl rfl<|Te<|Cr<|M rfl rfl<|Ts rfl (q2 rfl rfl)<|Te ?_
   refine Cc _ rfl (fun aa => ?_) (fun aa => ?_)
   rw [if_pos (of_decide_eq_true aa)] at hm
   refine Cr<|M rfl rfl<|As rfl rfl<|Te<|Ct<|Xb<|Xr<|Xr<|Xb<|Xr ?_
   have aM := aC _ (Option.some.inj hm).symm
   rw [aM] at p
   have hm := elimR p
   obtain rfl := o1 hm
   exact rM (rs := [.tmp 2]) (vs := [iv ai]) ⟨rfl, trivial⟩ ⟨rfl, rfl⟩ (.cons _ (.refl _)) (e.trans (g.trans (k.trans l)))
   rw [if_neg (of_decide_eq_false aa)] at hm
   refine Ck<|Xm<|Xn<|Cg<|Ts rfl (sa rfl rfl (by omega))<|M rfl rfl<|Tn ?_
   exact xM hm ⟨rfl, rfl, (l)⟩ (.cons _ (.refl _))
   rintro _ Z _ _ ⟨rfl, rfl, l⟩ aN
   rw [aN] at p
   have hm := elimL p
   refine Cr<|Ts rfl (lF rfl rfl (by omega))<|Te<|Cs<|c_cond_f rfl<|Ce<|Xe<|Xe<|Xo<|Xn ?_
   refine Cr<|As rfl rfl<|Te<|Ct ?_
   obtain rfl := o1 hm
   exact rM (rs := [.tmp 2]) (vs := [iv 0]) ⟨rfl, trivial⟩ ⟨rfl, rfl⟩ (.refl _) (e.trans (g.trans (k.trans l)))

set_option maxRecDepth 20000 in
theorem cFareCondCheck (b : Base) (R : Hp) (a : FareCond) (c : OA) (d : Nat) (k : FZ rFareCond b.w c d a.Kids) (l : Int) (hm : mFareCondCheck a = some l) :
    CallsG Tryz.prog 28 [.agg #[iv a.Kind, iv a.A, iv a.B, sv c a.Kids d]] b (R) (fun v b' hp' => iv l = v ∧ R = hp') := by
 refine fE 18 Tryz.func28 rfl Tryz.ntmps28 rfl ?_
 unfold mFareCondCheck at hm
 refine Cr<|Do rfl (uB _ rfl rfl) ?_
 rintro _ _ ⟨m, rfl, rfl⟩
 refine As rfl rfl<|Te<|Cs<|Cr<|Ts rfl (sD (vs := [_, _, _, _]) 0 4 rfl agg48 rfl rfl rfl) ?_
 obtain ⟨⟨p, q⟩, e, hm⟩ := bS hm
 obtain ⟨r, e⟩ := lim_some e
 have hm := (unc2E hm)
 refine Do rfl (uW _ call48 rfl (fun w ho => cFareCondSize r _ [] a c d (k.old ho) p q e) (fun _ _ _ h => h.2.symm)) ?_
 rintro _ _ ⟨⟨_, rfl, _⟩, rfl⟩
 refine M rfl rfl<|Ts rfl (st_extract rfl rfl)<|Ts rfl (st_extract rfl rfl)<|As rfl rfl<|As rfl rfl<|Te ?_
 obtain ⟨s, t, u⟩ := bS hm
 refine Cj (fun n e' hp' => [(1, pb m), (15, bv s)] = e' ∧ (m, Cl 48 [iv a.Kind, iv a.A, iv a.B, sv c a.Kids d]) :: R = hp' ∧ b.Le n) ?_ ?_
 have hm := t
 refine Cg<|M rfl rfl ?_
 refine Tb rfl (q5 rfl rfl) (fun f => ?_) (fun f => ?_)
 rw [if_pos f] at hm
 refine M rfl rfl<|No 12 rfl rfl rfl rfl rfl<|No 12 rfl rfl rfl rfl rfl<|Ts rfl (pT rfl rfl)<|Tn ?_
 obtain rfl := o1 hm
 exact xJ ⟨rfl, rfl, lr⟩ (.refl _)
 rw [if_neg f] at hm
 refine M rfl rfl<|Ys 12 rfl rfl rfl<|M rfl rfl<|Ys 12 rfl rfl rfl<|Ts rfl (q5 rfl rfl)<|Ts rfl (pF rfl rfl)<|Tn ?_
 obtain rfl := o1 hm
 exact xJ ⟨rfl, rfl, lr⟩ (.refl _)
 rintro n _ _ ⟨rfl, rfl, g⟩
 have hm := u
 refine Cc _ rfl (fun i => ?_) (fun i => ?_)
 rw [if_pos i] at hm
 refine Cr<|As rfl rfl<|Te<|Ct<|Xr ?_
 obtain rfl := o1 hm
 exact rM (rs := [.tmp 2]) (vs := [iv 4]) ⟨rfl, trivial⟩ ⟨rfl, rfl⟩ (.cons _ (.refl _)) g
 rw [if_neg (fun hh => Bool.noConfusion (hh.symm.trans i))] at hm
 refine Ck<|Xn<|Cr<|Ts rfl (sD (vs := [_, _, _, _]) 0 4 rfl agg48 rfl rfl rfl) ?_
 obtain ⟨o, j, hm⟩ := bS hm
 obtain ⟨x, j⟩ := lim_some j
 refine Do rfl (uW _ call49 rfl (fun w ho => cFareCondNode x _ [] a c d ((k.le g).old ho) o j) (fun _ _ _ h => h.2.symm)) ?_
 rintro _ _ ⟨⟨_, rfl, _⟩, rfl⟩
 refine As rfl rfl<|Te<|Ct ?_
 obtain rfl := o1 hm
 exact rM (rs := [.tmp 2]) (vs := [iv o]) ⟨rfl, trivial⟩ ⟨rfl, rfl⟩ (.cons _ (.refl _)) g

set_option maxRecDepth 20000 in
theorem cFareCheckTariff (b : Base) (R : Hp) (a : FareTariff) (f : OA) (g : Nat) (i : OA) (k : Nat) (t : FZ rFareBand b.w f g a.Bands) (h7 : FZ rFareRule b.w i k a.Rules) (x358 : Int) (hm : mFareCheckTariff a = some x358) :
    CallsG Tryz.prog 13 [.agg #[bv a.ByKm, sv f a.Bands g, iv a.Round, sv i a.Rules k]] b (R) (fun v b' hp' => iv x358 = v ∧ R = hp') := by
 refine fE 97 Tryz.func13 rfl Tryz.ntmps13 rfl ?_
 unfold mFareCheckTariff at hm
 refine Cr<|Do rfl (uB _ rfl rfl) ?_
 rintro _ _ ⟨l, rfl, rfl⟩
 refine As rfl rfl<|Te<|Cs ?_
 obtain ⟨x365, hj366, hk366⟩ := bS hm
 refine Cj (fun E e' hp' => [(1, pb l), (19, bv x365)] = e' ∧ (l, Cl 25 [bv a.ByKm, sv f a.Bands g, iv a.Round, sv i a.Rules k]) :: R = hp' ∧ b.Le E) ?_ ?_
 have hm := hj366
 refine Cg<|Ts rfl (sF rfl fld25_1)<|Ts rfl (sL 0 rfl one22 rfl rfl)<|Ts rfl (sE rfl sl22) ?_
 obtain ⟨x367, hcl368, hm⟩ := bS hm
 refine Do rfl (uW _ call16 rfl (fun w ho => cFareWithin _ [] (a.Bands.length : Int) 1 8 x367 hcl368) (fun _ _ _ h => h.2.symm)) ?_
 rintro _ _ ⟨⟨_, rfl, _⟩, rfl⟩
 rcases Bool.eq_false_or_eq_true x367 with x | x
 rw [if_pos x] at hm
 refine Tr 12 rfl (v' := .bool true) (by rw [x] <;> rfl)<|Ts rfl (st_not_t rfl)<|M rfl rfl<|Ys 14 rfl rfl rfl<|Ts rfl (sF rfl fld25_3)<|Ys 14 rfl rfl rfl<|Ts rfl (sL 0 rfl one23 rfl rfl)<|Ys 14 rfl rfl rfl<|Ts rfl (sE rfl sl23)<|Ys 14 rfl rfl rfl ?_
 refine Ts rfl (q5 rfl rfl)<|Ts rfl (pF rfl rfl)<|Tn ?_
 obtain rfl := o1 hm
 exact xJ ⟨rfl, rfl, lr⟩ (.refl _)
 rw [if_neg (fun hh => Bool.noConfusion (hh.symm.trans x))] at hm
 refine Tr 12 rfl (v' := .bool false) (by rw [x] <;> rfl)<|Ts rfl (st_not_f rfl)<|M rfl rfl<|No 14 rfl rfl rfl rfl rfl<|No 14 rfl rfl rfl rfl rfl<|No 14 rfl rfl rfl rfl rfl<|No 14 rfl rfl rfl rfl rfl<|Ts rfl (pT rfl rfl)<|Tn ?_
 obtain rfl := o1 hm
 exact xJ ⟨rfl, rfl, lr⟩ (.refl _)
 rintro E _ _ ⟨rfl, rfl, d⟩
 have hm := hk366
 refine Cc _ rfl (fun F => ?_) (fun F => ?_)
 rw [if_pos F] at hm
 refine Cr<|As rfl rfl<|Te<|Ct<|Xr ?_
 obtain rfl := o1 hm
 exact rM (rs := [.tmp 2]) (vs := [iv 4]) ⟨rfl, trivial⟩ ⟨rfl, rfl⟩ (.cons _ (.refl _)) d
 rw [if_neg (fun hh => Bool.noConfusion (hh.symm.trans F))] at hm
 refine Ck<|Xn<|Cs<|Cr<|Ts rfl (sF rfl fld25_1)<|Ts rfl (sL 0 rfl one22 rfl rfl)<|Ts rfl (sE rfl sl22)<|M rfl rfl<|Te<|Cb ?_
 have hb372 : a.Bands.length ≤ 9223372036854775807 := (FZ.bd (t.le d))
 obtain ⟨t503, hl504, p⟩ := bS hm
 refine cF (fun q => fun _ => fun y e' hp' => [(1, pb l), (21, sv f a.Bands g), (22, iv ((a.Bands.length : Int))), (23, iv ((q : Int)))] = e' ∧ (l, Cl 25 [bv a.ByKm, sv f a.Bands g, iv a.Round, sv i a.Rules k]) :: R = hp' ∧ E.Le y) hl504 ⟨rfl, rfl, lr⟩ (.refl _) ?_ ?_
 rintro q _ y _ _ oL371 hknL371 ⟨rfl, rfl, e⟩ hstepL371 houtL371
 unfold mFareCheckTariff_L371 at hstepL371
 have hm := hstepL371
 refine Cr<|Ts rfl (lT rfl rfl (by omega))<|Te<|Cs<|c_cond_t rfl<|Ck<|Xn<|Cs<|Cb<|Cr ?_
 refine M rfl rfl ?_
 obtain ⟨n, h507, hm⟩ := bS hm
 obtain ⟨j508, hj509, hx510⟩ := iS h507
 obtain ⟨cs511, hr512, hcs513, hA514, hlt515⟩ := FZ.get (sz := 2) rfl (by decide) (t.le (d.trans e)) hx510
 obtain ⟨_, _, rfl, rfl, rfl⟩ := hr512
 refine Ts rfl (sI j508 rfl rfl hj509 hlt515 hA514 sl22)<|Ts rfl (sP (vs := [iv n.Upto, iv n.Price]) 2 rfl agg45 hA514 rfl (fun j u hu => hcs513 j u hu))<|Do rfl (uA [iv 0, iv 0] zero45 rfl) ?_
 rintro _ _ ⟨g516, rfl, rfl⟩
 refine As rfl rfl<|Do rfl (uN (vs := [_, _]) 0 2 rfl rfl rfl siz45 rfl (mc rfl (mc rfl mn)) rfl (by simp)) ?_
 rintro _ _ rfl
 refine Te<|Cs ?_
 obtain ⟨x524, hj525, hk525⟩ := bS hm
 refine Cj (fun G e' hp' => [(1, pb l), (3, iv ((q : Int))), (4, pb g516), (21, sv f a.Bands g), (22, iv ((a.Bands.length : Int))), (23, iv ((q : Int))), (37, bv x524)] = e' ∧ (l, Cl 25 [bv a.ByKm, sv f a.Bands g, iv a.Round, sv i a.Rules k]) :: (g516, Cl 45 [iv n.Upto, iv n.Price]) :: R = hp' ∧ y.Le G) ?_ ?_
 have hm := hj525
 refine Cg<|Ts rfl (sF rfl fld45_0)<|Ts rfl (sL 0 rfl one3 rfl rfl) ?_
 obtain ⟨x526, hcl527, hm⟩ := bS hm
 refine Do rfl (uW _ call16 rfl (fun w ho => cFareWithin _ [] n.Upto 1 1000 x526 hcl527) (fun _ _ _ h => h.2.symm)) ?_
 rintro _ _ ⟨⟨_, rfl, _⟩, rfl⟩
 rcases Bool.eq_false_or_eq_true x526 with z | z
 rw [if_pos z] at hm
 refine Tr 30 rfl (v' := .bool true) (by rw [z] <;> rfl)<|Ts rfl (st_not_t rfl)<|M rfl rfl<|Ys 32 rfl rfl rfl<|Ts rfl (sF rfl fld45_1)<|Ys 32 rfl rfl rfl<|Ts rfl (sL 0 rfl one3 rfl rfl)<|Ys 32 rfl rfl rfl ?_
 obtain ⟨x529, hcl530, hm⟩ := bS hm
 refine Do rfl (uW _ call16 rfl (fun w ho => cFareWithin _ [] n.Price 0 100000 x529 hcl530) (fun _ _ _ h => h.2.symm)) ?_
 rintro _ _ ⟨⟨_, rfl, _⟩, rfl⟩
 refine Ys 32 rfl rfl rfl<|Ts rfl (sn2 rfl)<|Ts rfl (pF rfl rfl)<|Tn ?_
 obtain rfl := o1 hm
 refine Xp 1 rfl ?_
 exact xJ ⟨rfl, rfl, lr⟩ (.refl _)
 rw [if_neg (fun hh => Bool.noConfusion (hh.symm.trans z))] at hm
 refine Tr 30 rfl (v' := .bool false) (by rw [z] <;> rfl)<|Ts rfl (st_not_f rfl)<|M rfl rfl<|No 32 rfl rfl rfl rfl rfl<|No 32 rfl rfl rfl rfl rfl<|No 32 rfl rfl rfl rfl rfl<|No 32 rfl rfl rfl rfl rfl<|Ts rfl (pT rfl rfl)<|Tn ?_
 obtain rfl := o1 hm
 refine Xp 1 rfl ?_
 exact xJ ⟨rfl, rfl, lr⟩ (.refl _)
 rintro G _ _ ⟨rfl, rfl, r⟩
 have hm := hk525
 refine Cc _ rfl (fun H => ?_) (fun H => ?_)
 rw [if_pos H] at hm
 refine Cr<|As rfl rfl<|Te<|Ct<|Xr<|Xb<|Xr<|Xr<|Xb<|Xr ?_
 have hq532 := houtL371 _ (Option.some.inj hm).symm
 rw [hq532] at p
 have hm := elimR p
 obtain rfl := o1 hm
 exact rM (rs := [.tmp 2]) (vs := [iv 2]) ⟨rfl, trivial⟩ ⟨rfl, rfl⟩ (.cons _ (.cons _ (.refl _))) (d.trans (e.trans r))
 rw [if_neg (fun hh => Bool.noConfusion (hh.symm.trans H))] at hm
 refine Ck<|Xn ?_
 obtain ⟨x583, hj584, hk584⟩ := bS hm
 refine Cj (fun b581 e' hp' => [(1, pb l), (21, sv f a.Bands g), (22, iv ((a.Bands.length : Int))), (23, iv ((q : Int))), (63, bv x583)] = e' ∧ (l, Cl 25 [bv a.ByKm, sv f a.Bands g, iv a.Round, sv i a.Rules k]) :: R = hp' ∧ G.Le b581) ?_ ?_
 have hm := hj584
 by_cases A : 0 < (q : Int)
 rw [if_pos A] at hm
 obtain ⟨_, s, hm⟩ := bS hm
 obtain ⟨x611, h612, hm⟩ := bS hm
 by_cases C : n.Upto ≤ x611.Upto
 rw [if_pos C] at hm
 refine Di mixed (.refl _)<|E0 0 rfl (sM rfl)<|E0 1 rfl (st_gtr_t rfl rfl A)<|E0 2 rfl (sM rfl)<|Yz 3 40 rfl (sF rfl fld45_0)<|Ey 4 40 rfl (sL 1 rfl one3 rfl rfl)<|Yz 5 40 rfl (sF rfl fld25_1)<|Ey 6 40 rfl (sL 0 rfl one22 rfl rfl)<|Yz 7 40 rfl (sM rfl) ?_
 have s := (kS s).2
 refine Yz 8 40 rfl (sb rfl rfl s) ?_
 obtain ⟨I, J, K⟩ := iS h612
 obtain ⟨cs616, L, O, B, S⟩ := FZ.get (sz := 2) rfl (by decide) (t.le (d.trans (e.trans r))) K
 obtain ⟨_, _, rfl, rfl, rfl⟩ := L
 refine Yz 9 40 rfl (sI I rfl rfl J S B sl22)<|Yz 10 40 rfl (sQ rfl B fld45_0)<|Ey 11 40 rfl (sO rfl one3 (O 0 _ rfl))<|Yz 12 40 rfl (st_leq_t rfl rfl C)<|Yz 13 40 rfl (sM rfl)<|En 14 51 rfl rfl rfl<|En 15 51 rfl rfl rfl<|En 16 51 rfl rfl rfl<|En 17 51 rfl rfl rfl<|En 18 51 rfl rfl rfl ?_
 refine En 19 51 rfl rfl rfl<|En 20 51 rfl rfl rfl<|En 21 51 rfl rfl rfl<|En 22 51 rfl rfl rfl<|En 23 51 rfl rfl rfl<|Yz 24 40 rfl (pT rfl rfl)<|E0 25 rfl (pT rfl rfl)<|Eo<|Dd (by kernel_rfl) ?_
 obtain rfl := o1 hm
 exact xJ ⟨rfl, rfl, lr⟩ (.cons_cons _ (.cons _ (.refl _)))
 rw [if_neg C] at hm
 obtain ⟨_, T, hm⟩ := bS hm
 obtain ⟨x623, h624, hm⟩ := bS hm
 refine Di mixed (.refl _)<|E0 0 rfl (sM rfl)<|E0 1 rfl (st_gtr_t rfl rfl A)<|E0 2 rfl (sM rfl)<|Yz 3 40 rfl (sF rfl fld45_0)<|Ey 4 40 rfl (sL 1 rfl one3 rfl rfl)<|Yz 5 40 rfl (sF rfl fld25_1)<|Ey 6 40 rfl (sL 0 rfl one22 rfl rfl)<|Yz 7 40 rfl (sM rfl) ?_
 have s := (kS s).2
 refine Yz 8 40 rfl (sb rfl rfl s) ?_
 obtain ⟨I, J, K⟩ := iS h612
 obtain ⟨cs616, L, O, B, S⟩ := FZ.get (sz := 2) rfl (by decide) (t.le (d.trans (e.trans r))) K
 obtain ⟨_, _, rfl, rfl, rfl⟩ := L
 refine Yz 9 40 rfl (sI I rfl rfl J S B sl22)<|Yz 10 40 rfl (sQ rfl B fld45_0)<|Ey 11 40 rfl (sO rfl one3 (O 0 _ rfl))<|Yz 12 40 rfl (st_leq_f rfl rfl C)<|Yz 13 40 rfl (sM rfl)<|Yz 14 51 rfl (sF rfl fld45_1)<|Ey 15 51 rfl (sL 1 rfl one3 rfl rfl)<|Yz 16 51 rfl (sF rfl fld25_1)<|Ey 17 51 rfl (sL 0 rfl one22 rfl rfl)<|Yz 18 51 rfl (sM rfl) ?_
 have T := (kS T).2
 refine Yz 19 51 rfl (sb rfl rfl T) ?_
 obtain ⟨j625, hj626, hx627⟩ := iS h624
 obtain ⟨cs628, hr629, hcs630, hA631, hlt632⟩ := FZ.get (sz := 2) rfl (by decide) (t.le (d.trans (e.trans r))) hx627
 obtain ⟨_, _, rfl, rfl, rfl⟩ := hr629
 refine Yz 20 51 rfl (sI j625 rfl rfl hj626 hlt632 hA631 sl22)<|Yz 21 51 rfl (sQ rfl hA631 fld45_1)<|Ey 22 51 rfl (sO rfl one3 (hcs630 1 _ rfl))<|Yz 23 51 rfl (q3 rfl rfl)<|Yz 24 40 rfl (pF rfl rfl)<|E0 25 rfl (pT rfl rfl)<|Eo<|Dd (by kernel_rfl) ?_
 obtain rfl := o1 hm
 exact xJ ⟨rfl, rfl, lr⟩ (.cons_cons _ (.cons _ (.refl _)))
 rw [if_neg A] at hm
 refine Di mixed (.refl _)<|E0 0 rfl (sM rfl)<|E0 1 rfl (st_gtr_f rfl rfl A)<|E0 2 rfl (sM rfl)<|En 3 40 rfl rfl rfl<|En 4 40 rfl rfl rfl<|En 5 40 rfl rfl rfl<|En 6 40 rfl rfl rfl<|En 7 40 rfl rfl rfl<|En 8 40 rfl rfl rfl ?_
 refine En 9 40 rfl rfl rfl<|En 10 40 rfl rfl rfl<|En 11 40 rfl rfl rfl<|En 12 40 rfl rfl rfl<|En 13 40 rfl rfl rfl<|En 14 51 rfl rfl rfl<|En 15 51 rfl rfl rfl<|En 16 51 rfl rfl rfl<|En 17 51 rfl rfl rfl<|En 18 51 rfl rfl rfl ?_
 refine En 19 51 rfl rfl rfl<|En 20 51 rfl rfl rfl<|En 21 51 rfl rfl rfl<|En 22 51 rfl rfl rfl<|En 23 51 rfl rfl rfl<|En 24 40 rfl rfl rfl<|E0 25 rfl (pF rfl rfl)<|Eo<|Dd (by kernel_rfl) ?_
 obtain rfl := o1 hm
 exact xJ ⟨rfl, rfl, lr⟩ (.cons_cons _ (.cons _ (.refl _)))
 rintro b581 _ _ ⟨rfl, rfl, hle582⟩
 have hm := hk584
 refine Cc _ rfl (fun U => ?_) (fun U => ?_)
 rw [if_pos U] at hm
 refine Cr<|As rfl rfl<|Te<|Ct<|Xb<|Xr<|Xr<|Xb<|Xr ?_
 have hq634 := houtL371 _ (Option.some.inj hm).symm
 rw [hq634] at p
 have hm := elimR p
 obtain rfl := o1 hm
 exact rM (rs := [.tmp 2]) (vs := [iv 1]) ⟨rfl, trivial⟩ ⟨rfl, rfl⟩ (.cons _ (.refl _)) (d.trans (e.trans (r.trans hle582)))
 rw [if_neg (fun hh => Bool.noConfusion (hh.symm.trans U))] at hm
 refine Ck<|Xm<|Xn<|Cg<|Ts rfl (sa rfl rfl (by omega))<|M rfl rfl<|Tn ?_
 exact xM hm ⟨rfl, rfl, ((e.trans (r.trans hle582)))⟩ (.refl _)
 rintro _ y _ _ ⟨rfl, rfl, e⟩ hq635
 rw [hq635] at p
 have hm := elimL p
 refine Cr<|Ts rfl (lF rfl rfl (by omega))<|Te<|Cs<|c_cond_f rfl<|Ce<|Xe<|Xe<|Xo<|Xn ?_
 refine Cs<|Cr<|Ts rfl (sF rfl fld25_2)<|Ts rfl (sL 0 rfl one3 rfl rfl) ?_
 obtain ⟨x636, hcl637, hm⟩ := bS hm
 refine Do rfl (uW _ call16 rfl (fun w ho => cFareWithin _ [] a.Round 1 100 x636 hcl637) (fun _ _ _ h => h.2.symm)) ?_
 rintro _ _ ⟨⟨_, rfl, _⟩, rfl⟩
 refine Ts rfl (sn2 rfl)<|Te ?_
 refine Cc _ rfl (fun V => ?_) (fun V => ?_)
 rw [if_neg (fun hh => Bool.noConfusion (hh.symm.trans (nt V)))] at hm
 refine Cr<|As rfl rfl<|Te<|Ct<|Xr ?_
 obtain rfl := o1 hm
 exact rM (rs := [.tmp 2]) (vs := [iv 2]) ⟨rfl, trivial⟩ ⟨rfl, rfl⟩ (.cons _ (.refl _)) (d.trans e)
 rw [if_pos (nf V)] at hm
 refine Ck<|Xn<|Cs<|Cr<|Ts rfl (sF rfl fld25_3)<|Ts rfl (sL 0 rfl one23 rfl rfl)<|Ts rfl (sE rfl sl23)<|M rfl rfl<|Te<|Cb ?_
 have hb640 : a.Rules.length ≤ 9223372036854775807 := (FZ.bd (h7.le (d.trans e)))
 obtain ⟨t673, hl674, m⟩ := bS hm
 refine cF (fun W => fun _ => fun D e' hp' => [(70, sv i a.Rules k), (71, iv ((a.Rules.length : Int))), (72, iv ((W : Int)))] = e' ∧ R = hp' ∧ y.Le D) hl674 ⟨rfl, rfl, lr⟩ (.cons _ (.refl _)) ?_ ?_
 rintro W _ D _ _ oL639 hknL639 ⟨rfl, rfl, o⟩ hstepL639 X
 unfold mFareCheckTariff_L639 at hstepL639
 have hm := hstepL639
 refine Cr<|Ts rfl (lT rfl rfl (by omega))<|Te<|Cs<|c_cond_t rfl<|Ck<|Xn<|Cs<|Cb<|Cr ?_
 obtain ⟨c, h677, hm⟩ := bS hm
 obtain ⟨j678, hj679, hx680⟩ := iS h677
 obtain ⟨cs681, hr682, hcs683, hA684, hlt685⟩ := FZ.get (sz := 7) rfl (by decide) (h7.le (d.trans (e.trans o))) hx680
 obtain ⟨_, _, rfl, ⟨_, _, rfl, rfl, ⟨_, _, rfl, rfl, ⟨_, _, rfl, rfl, ⟨Y, Z, rfl, h688⟩⟩⟩⟩, ⟨_, _, rfl, rfl, ⟨_, _, rfl, rfl, rfl⟩⟩⟩ := hr682
 refine Ts rfl (sI j678 rfl rfl hj679 hlt685 hA684 sl23)<|Ts rfl (sP (vs := [iv c.If.Kind, iv c.If.A, iv c.If.B, sv Y c.If.Kids Z, iv c.Do, iv c.N, bv c.Stop]) 7 rfl agg50 hA684 rfl (fun j u hu => hcs683 j u hu))<|Do rfl (uA [iv 0, iv 0, iv 0, sn, iv 0, iv 0, .bool false] zero50 rfl) ?_
 rintro _ _ ⟨g689, rfl, rfl⟩
 refine Do rfl (uN (vs := [_, _, _, _, _, _, _]) 0 7 rfl rfl rfl siz50 rfl (mc rfl (mc rfl (mc rfl (mc rfl (mc rfl (mc rfl (mc rfl mn))))))) rfl (by simp)) ?_
 rintro _ _ rfl
 refine Te<|Cs<|Cr<|Ts rfl (sF rfl fld50_0)<|Ts rfl (sD (vs := [_, _, _, _]) 0 4 rfl agg48 rfl rfl rfl) ?_
 obtain ⟨x690, hcl691, hm⟩ := bS hm
 refine Do rfl (uW _ call28 rfl (fun w ho => cFareCondCheck _ [] c.If Y Z ((rFareCond_in h688).old ho) x690 hcl691) (fun _ _ _ h => h.2.symm)) ?_
 rintro _ _ ⟨⟨_, rfl, _⟩, rfl⟩
 refine As rfl rfl<|Te<|Cr<|M rfl rfl<|Ts rfl (q2 rfl rfl)<|Te ?_
 refine Cc _ rfl (fun aa => ?_) (fun aa => ?_)
 rw [if_pos (of_decide_eq_true aa)] at hm
 refine Cr<|M rfl rfl<|As rfl rfl<|Te<|Ct<|Xr<|Xb<|Xr<|Xr<|Xb ?_
 refine Xr ?_
 have hq693 := X _ (Option.some.inj hm).symm
 rw [hq693] at m
 have hm := elimR m
 obtain rfl := o1 hm
 exact rM (rs := [.tmp 2]) (vs := [iv x690]) ⟨rfl, trivial⟩ ⟨rfl, rfl⟩ (.cons _ (.refl _)) (d.trans (e.trans o))
 rw [if_neg (of_decide_eq_false aa)] at hm
 refine Ck<|Xn<|Cr<|As rfl rfl<|Te ?_
 obtain ⟨x697, hj698, hk698⟩ := bS hm
 refine Cj (fun b695 e' hp' => [(6, pb g689), (8, iv x697), (70, sv i a.Rules k), (71, iv ((a.Rules.length : Int))), (72, iv ((W : Int)))] = e' ∧ (g689, Cl 50 [iv c.If.Kind, iv c.If.A, iv c.If.B, sv Y c.If.Kids Z, iv c.Do, iv c.N, bv c.Stop]) :: R = hp' ∧ D.Le b695) ?_ ?_
 have hm := hj698
 refine Cr<|Ts rfl (sF rfl fld50_1)<|Ts rfl (sL 0 rfl one3 rfl rfl)<|Ts rfl (q1 rfl rfl)<|Te ?_
 refine Cc _ rfl (fun ab => ?_) (fun ab => ?_)
 rw [if_pos (of_decide_eq_true ab)] at hm
 refine Cg<|As rfl rfl<|Tn ?_
 obtain rfl := o1 hm
 exact xJ ⟨rfl, rfl, lr⟩ (.refl _)
 rw [if_neg (of_decide_eq_false ab)] at hm
 refine Ck ?_
 obtain rfl := o1 hm
 exact xJ ⟨rfl, rfl, lr⟩ (.refl _)
 rintro b695 _ _ ⟨rfl, rfl, ac⟩
 have hm := hk698
 refine Cb<|Cr<|Ts rfl (sF rfl fld50_1)<|Ts rfl (sL 0 rfl one3 rfl rfl) ?_
 obtain ⟨x700, hcl701, hm⟩ := bS hm
 refine Do rfl (uW _ call16 rfl (fun w ho => cFareWithin _ [] c.Do 1 6 x700 hcl701) (fun _ _ _ h => h.2.symm)) ?_
 rintro _ _ ⟨⟨_, rfl, _⟩, rfl⟩
 refine Ts rfl (sn2 rfl)<|As rfl rfl<|Te ?_
 refine Cc _ rfl (fun ad => ?_) (fun ad => ?_)
 rw [if_neg (fun hh => Bool.noConfusion (hh.symm.trans (nt ad)))] at hm
 refine Cr<|As rfl rfl<|Te<|Ct<|Xb<|Xb<|Xr<|Xr<|Xb<|Xr ?_
 have hq703 := X _ (Option.some.inj hm).symm
 rw [hq703] at m
 have hm := elimR m
 obtain rfl := o1 hm
 exact rM (rs := [.tmp 2]) (vs := [iv 15]) ⟨rfl, trivial⟩ ⟨rfl, rfl⟩ (.cons _ (.refl _)) (d.trans (e.trans (o.trans ac)))
 rw [if_pos (nf ad)] at hm
 refine Cr<|Ts rfl (sF rfl fld50_2)<|Ts rfl (sL 0 rfl one3 rfl rfl)<|M rfl rfl ?_
 obtain ⟨x704, hcl705, hm⟩ := bS hm
 refine Do rfl (uW _ call16 rfl (fun w ho => cFareWithin _ [] c.N 0 x697 x704 hcl705) (fun _ _ _ h => h.2.symm)) ?_
 rintro _ _ ⟨⟨_, rfl, _⟩, rfl⟩
 refine Ts rfl (sn2 rfl)<|As rfl rfl<|Te ?_
 refine Cc _ rfl (fun ae => ?_) (fun ae => ?_)
 rw [if_neg (fun hh => Bool.noConfusion (hh.symm.trans (nt ae)))] at hm
 refine Cr<|As rfl rfl<|Te<|Ct<|Xb<|Xb<|Xr<|Xr<|Xb<|Xr ?_
 have hq707 := X _ (Option.some.inj hm).symm
 rw [hq707] at m
 have hm := elimR m
 obtain rfl := o1 hm
 exact rM (rs := [.tmp 2]) (vs := [iv 2]) ⟨rfl, trivial⟩ ⟨rfl, rfl⟩ (.cons _ (.refl _)) (d.trans (e.trans (o.trans ac)))
 rw [if_pos (nf ae)] at hm
 refine Ck<|Xm<|Xm<|Xn<|Cg<|Ts rfl (sa rfl rfl (by omega))<|M rfl rfl<|Tn ?_
 exact xM hm ⟨rfl, rfl, ((o.trans ac))⟩ (.cons _ (.refl _))
 rintro _ D _ _ ⟨rfl, rfl, o⟩ hq708
 rw [hq708] at m
 have hm := elimL m
 refine Cr<|Ts rfl (lF rfl rfl (by omega))<|Te<|Cs<|c_cond_f rfl<|Ce<|Xe<|Xe<|Xo<|Xn ?_
 refine Cr<|As rfl rfl<|Te<|Ct ?_
 obtain rfl := o1 hm
 exact rM (rs := [.tmp 2]) (vs := [iv 0]) ⟨rfl, trivial⟩ ⟨rfl, rfl⟩ (.refl _) (d.trans (e.trans o))

set_option maxRecDepth 20000 in
theorem cFareCheckZones (b : Base) (R : Hp) (a : (List Int)) (g : Bool) (d : OA) (e : Nat) (j : FZ rI b.w d e a) (s : Int) (hm : mFareCheckZones a g = some s) :
    CallsG Tryz.prog 17 [sv d a e, bv g] b (R) (fun v b' hp' => iv s = v ∧ R = hp') := by
 refine fE 41 Tryz.func17 rfl Tryz.ntmps17 rfl ?_
 unfold mFareCheckZones at hm
 refine Cr<|As rfl rfl<|Te<|Cs<|Cr<|M rfl rfl<|Ts rfl (sE rfl sl27)<|M rfl rfl<|Te<|Cb ?_
 have am : a.length ≤ 9223372036854775807 := (FZ.bd j)
 obtain ⟨an, z, f⟩ := bS hm
 refine cF (fun l => fun _ => fun k e' hp' => [(0, sv d a e), (1, bv g), (7, sv d a e), (8, iv ((a.length : Int))), (9, iv ((l : Int)))] = e' ∧ R = hp' ∧ b.Le k) z ⟨rfl, rfl, lr⟩ (.refl _) ?_ ?_
 rintro l _ k _ _ ao aq ⟨rfl, rfl, c⟩ t u
 unfold mFareCheckZones_L154 at t
 have hm := t
 refine Cr<|Ts rfl (lT rfl rfl (by omega))<|Te<|Cs<|c_cond_t rfl<|Ck<|Xn<|Cs<|Cb<|Cr ?_
 refine M rfl rfl ?_
 obtain ⟨A, B, hm⟩ := bS hm
 obtain ⟨C, D, E⟩ := iS B
 obtain ⟨ar, F, G, H, I⟩ := FZ.get (sz := 1) rfl (by decide) (j.le c) E
 obtain rfl := F
 refine Ts rfl (sI C rfl rfl D I H sl27)<|Ts rfl (sO rfl one3 (G 0 _ rfl))<|As rfl rfl<|As rfl rfl<|Te<|Cs<|Cr<|M rfl rfl ?_
 obtain ⟨J, K, hm⟩ := bS hm
 refine Do rfl (uW _ call16 rfl (fun w ho => cFareWithin _ [] A 0 19 J K) (fun _ _ _ h => h.2.symm)) ?_
 rintro _ _ ⟨⟨_, rfl, _⟩, rfl⟩
 refine Ts rfl (sn2 rfl)<|Te ?_
 refine Cc _ rfl (fun m => ?_) (fun m => ?_)
 rw [if_neg (fun hh => Bool.noConfusion (hh.symm.trans (nt m)))] at hm
 refine Cr<|As rfl rfl<|Te<|Ct<|Xr<|Xb<|Xr<|Xr<|Xb<|Xr ?_
 have L := u _ (Option.some.inj hm).symm
 rw [L] at f
 have hm := elimR f
 obtain rfl := o1 hm
 exact rM (rs := [.tmp 4]) (vs := [iv 2]) ⟨rfl, trivial⟩ ⟨rfl, rfl⟩ (.refl _) c
 rw [if_pos (nf m)] at hm
 refine Ck<|Xn ?_
 obtain ⟨O, S, T⟩ := bS hm
 refine Cj (fun x e' hp' => [(0, sv d a e), (1, bv g), (7, sv d a e), (8, iv ((a.length : Int))), (9, iv ((l : Int))), (39, bv O)] = e' ∧ R = hp' ∧ k.Le x) ?_ ?_
 have hm := S
 refine Cg<|M rfl rfl ?_
 refine Tb rfl (q5 rfl rfl) (fun n => ?_) (fun n => ?_)
 rw [if_pos n] at hm
 refine M rfl rfl<|Ys 19 rfl rfl rfl<|M rfl rfl<|Ys 19 rfl rfl rfl<|M rfl rfl<|Ys 19 rfl rfl rfl<|M rfl rfl<|Ys 19 rfl rfl rfl ?_
 obtain ⟨_, o, hm⟩ := bS hm
 have o := (kS o).2
 refine Ts rfl (sb rfl rfl o)<|Ys 19 rfl rfl rfl ?_
 obtain ⟨au, U, hm⟩ := bS hm
 obtain ⟨V, W, X⟩ := iS U
 obtain ⟨av, Y, Z, aa, ab⟩ := FZ.get (sz := 1) rfl (by decide) (j.le c) X
 obtain rfl := Y
 refine Ts rfl (sI V rfl rfl W ab aa sl27)<|Ys 19 rfl rfl rfl<|Ts rfl (sO rfl one3 (Z 0 _ rfl))<|Ys 19 rfl rfl rfl ?_
 refine Tb rfl (q1 rfl rfl) (fun p => ?_) (fun p => ?_)
 rw [if_pos p] at hm
 refine Ys 19 rfl rfl rfl<|M rfl rfl<|No 27 rfl rfl rfl rfl rfl<|No 27 rfl rfl rfl rfl rfl<|No 29 rfl rfl rfl rfl rfl<|No 29 rfl rfl rfl rfl rfl<|No 29 rfl rfl rfl rfl rfl<|No 29 rfl rfl rfl rfl rfl<|No 29 rfl rfl rfl rfl rfl<|No 29 rfl rfl rfl rfl rfl ?_
 refine No 29 rfl rfl rfl rfl rfl<|No 27 rfl rfl rfl rfl rfl<|Ys 19 rfl rfl rfl<|Ts rfl (pT rfl rfl)<|Ts rfl (pT rfl rfl)<|Tn ?_
 obtain rfl := o1 hm
 exact xJ ⟨rfl, rfl, lr⟩ (.refl _)
 rw [if_neg p] at hm
 refine Ys 19 rfl rfl rfl<|M rfl rfl<|Ys 27 rfl rfl rfl<|M rfl rfl ?_
 rcases Bool.eq_false_or_eq_true g with i | i
 rw [if_pos i] at hm
 refine Tr 28 rfl (v' := .bool true) (by rw [i] <;> rfl)<|Ys 27 rfl rfl rfl<|M rfl rfl<|Ys 29 rfl rfl rfl<|M rfl rfl<|Ys 29 rfl rfl rfl<|M rfl rfl<|Ys 29 rfl rfl rfl<|M rfl rfl<|Ys 29 rfl rfl rfl ?_
 obtain ⟨_, q, hm⟩ := bS hm
 have q := (kS q).2
 refine Ts rfl (sb rfl rfl q)<|Ys 29 rfl rfl rfl ?_
 obtain ⟨aw, ac, hm⟩ := bS hm
 obtain ⟨ad, ae, af⟩ := iS ac
 obtain ⟨ax, ag, ah, ai, aj⟩ := FZ.get (sz := 1) rfl (by decide) (j.le c) af
 obtain rfl := ag
 refine Ts rfl (sI ad rfl rfl ae aj ai sl27)<|Ys 29 rfl rfl rfl<|Ts rfl (sO rfl one3 (ah 0 _ rfl))<|Ys 29 rfl rfl rfl<|Ts rfl (q3 rfl rfl)<|Ys 27 rfl rfl rfl<|Ts rfl (pT rfl rfl)<|Ys 19 rfl rfl rfl<|Ts rfl (pF rfl rfl)<|Ts rfl (pT rfl rfl) ?_
 refine Tn ?_
 obtain rfl := o1 hm
 exact xJ ⟨rfl, rfl, lr⟩ (.refl _)
 rw [if_neg (fun hh => Bool.noConfusion (hh.symm.trans i))] at hm
 refine Tr 28 rfl (v' := .bool false) (by rw [i] <;> rfl)<|Ys 27 rfl rfl rfl<|M rfl rfl<|No 29 rfl rfl rfl rfl rfl<|No 29 rfl rfl rfl rfl rfl<|No 29 rfl rfl rfl rfl rfl<|No 29 rfl rfl rfl rfl rfl<|No 29 rfl rfl rfl rfl rfl<|No 29 rfl rfl rfl rfl rfl<|No 29 rfl rfl rfl rfl rfl ?_
 refine Ys 27 rfl rfl rfl<|Ts rfl (pF rfl rfl)<|Ys 19 rfl rfl rfl<|Ts rfl (pF rfl rfl)<|Ts rfl (pT rfl rfl)<|Tn ?_
 obtain rfl := o1 hm
 exact xJ ⟨rfl, rfl, lr⟩ (.refl _)
 rw [if_neg n] at hm
 refine M rfl rfl<|No 19 rfl rfl rfl rfl rfl<|No 19 rfl rfl rfl rfl rfl<|No 19 rfl rfl rfl rfl rfl<|No 19 rfl rfl rfl rfl rfl<|No 19 rfl rfl rfl rfl rfl<|No 19 rfl rfl rfl rfl rfl<|No 19 rfl rfl rfl rfl rfl<|No 19 rfl rfl rfl rfl rfl<|No 27 rfl rfl rfl rfl rfl ?_
 refine No 27 rfl rfl rfl rfl rfl<|No 29 rfl rfl rfl rfl rfl<|No 29 rfl rfl rfl rfl rfl<|No 29 rfl rfl rfl rfl rfl<|No 29 rfl rfl rfl rfl rfl<|No 29 rfl rfl rfl rfl rfl<|No 29 rfl rfl rfl rfl rfl<|No 29 rfl rfl rfl rfl rfl<|No 27 rfl rfl rfl rfl rfl<|No 19 rfl rfl rfl rfl rfl ?_
 refine Ts rfl (pF rfl rfl)<|Tn ?_
 obtain rfl := o1 hm
 exact xJ ⟨rfl, rfl, lr⟩ (.refl _)
 rintro x _ _ ⟨rfl, rfl, y⟩
 have hm := T
 refine Cc _ rfl (fun r => ?_) (fun r => ?_)
 rw [if_pos r] at hm
 refine Cr<|As rfl rfl<|Te<|Ct<|Xb<|Xr<|Xr<|Xb<|Xr ?_
 have ak := u _ (Option.some.inj hm).symm
 rw [ak] at f
 have hm := elimR f
 obtain rfl := o1 hm
 exact rM (rs := [.tmp 4]) (vs := [iv 1]) ⟨rfl, trivial⟩ ⟨rfl, rfl⟩ (.refl _) (c.trans y)
 rw [if_neg (fun hh => Bool.noConfusion (hh.symm.trans r))] at hm
 refine Ck<|Xm<|Xn<|Cg<|Ts rfl (sa rfl rfl (by omega))<|M rfl rfl<|Tn ?_
 exact xM hm ⟨rfl, rfl, ((c.trans y))⟩ (.refl _)
 rintro _ k _ _ ⟨rfl, rfl, c⟩ al
 rw [al] at f
 have hm := elimL f
 refine Cr<|Ts rfl (lF rfl rfl (by omega))<|Te<|Cs<|c_cond_f rfl<|Ce<|Xe<|Xe<|Xo<|Xn ?_
 refine Cr<|As rfl rfl<|Te<|Ct ?_
 obtain rfl := o1 hm
 exact rM (rs := [.tmp 4]) (vs := [iv 0]) ⟨rfl, trivial⟩ ⟨rfl, rfl⟩ (.refl _) c

set_option maxRecDepth 20000 in
theorem cFareCheckTrip (b : Base) (R : Hp) (a : FareTrip) (f : OA) (g : Nat) (s : FZ rI b.w f g a.Zones) (l : Int) (hm : mFareCheckTrip a = some l) :
    CallsG Tryz.prog 14 [.agg #[iv a.Day, iv a.At, iv a.Km, iv a.Age, bv a.Card, sv f a.Zones g]] b (R) (fun v b' hp' => iv l = v ∧ R = hp') := by
 refine fE 35 Tryz.func14 rfl Tryz.ntmps14 rfl ?_
 unfold mFareCheckTrip at hm
 refine Cr<|Do rfl (uB _ rfl rfl) ?_
 rintro _ _ ⟨m, rfl, rfl⟩
 refine As rfl rfl<|Te<|Cs<|Cb ?_
 obtain ⟨t, u, x⟩ := bS hm
 refine Cj (fun n e' hp' => [(1, pb m), (3, bv t)] = e' ∧ (m, Cl 38 [iv a.Day, iv a.At, iv a.Km, iv a.Age, bv a.Card, sv f a.Zones g]) :: R = hp' ∧ b.Le n) ?_ ?_
 have hm := u
 refine Cg<|Ts rfl (sF rfl fld38_0)<|Ts rfl (sL 0 rfl one3 rfl rfl) ?_
 obtain ⟨o, y, hm⟩ := bS hm
 refine Do rfl (uW _ call16 rfl (fun w ho => cFareWithin _ [] a.Day 0 6 o y) (fun _ _ _ h => h.2.symm)) ?_
 rintro _ _ ⟨⟨_, rfl, _⟩, rfl⟩
 rcases Bool.eq_false_or_eq_true o with c | c
 rw [if_pos c] at hm
 refine Tr 6 rfl (v' := .bool true) (by rw [c] <;> rfl)<|Ts rfl (st_not_t rfl)<|M rfl rfl<|Ys 8 rfl rfl rfl<|Ts rfl (sF rfl fld38_1)<|Ys 8 rfl rfl rfl<|Ts rfl (sL 0 rfl one3 rfl rfl)<|Ys 8 rfl rfl rfl ?_
 obtain ⟨p, z, hm⟩ := bS hm
 refine Do rfl (uW _ call16 rfl (fun w ho => cFareWithin _ [] a.At 0 28800 p z) (fun _ _ _ h => h.2.symm)) ?_
 rintro _ _ ⟨⟨_, rfl, _⟩, rfl⟩
 rcases Bool.eq_false_or_eq_true p with d | d
 rw [if_pos d] at hm
 refine Tr 11 rfl (v' := .bool true) (by rw [d] <;> rfl)<|Ys 8 rfl rfl rfl<|Ts rfl (st_not_t rfl)<|Ts rfl (pF rfl rfl)<|M rfl rfl<|Ys 14 rfl rfl rfl<|Ts rfl (sF rfl fld38_2)<|Ys 14 rfl rfl rfl<|Ts rfl (sL 0 rfl one3 rfl rfl)<|Ys 14 rfl rfl rfl ?_
 obtain ⟨q, A, hm⟩ := bS hm
 refine Do rfl (uW _ call16 rfl (fun w ho => cFareWithin _ [] a.Km 0 1000 q A) (fun _ _ _ h => h.2.symm)) ?_
 rintro _ _ ⟨⟨_, rfl, _⟩, rfl⟩
 rcases Bool.eq_false_or_eq_true q with e | e
 rw [if_pos e] at hm
 refine Tr 17 rfl (v' := .bool true) (by rw [e] <;> rfl)<|Ys 14 rfl rfl rfl<|Ts rfl (st_not_t rfl)<|Ts rfl (pF rfl rfl)<|M rfl rfl<|Ys 20 rfl rfl rfl<|Ts rfl (sF rfl fld38_3)<|Ys 20 rfl rfl rfl<|Ts rfl (sL 0 rfl one3 rfl rfl)<|Ys 20 rfl rfl rfl ?_
 obtain ⟨B, C, hm⟩ := bS hm
 refine Do rfl (uW _ call16 rfl (fun w ho => cFareWithin _ [] a.Age 0 120 B C) (fun _ _ _ h => h.2.symm)) ?_
 rintro _ _ ⟨⟨_, rfl, _⟩, rfl⟩
 refine Ys 20 rfl rfl rfl<|Ts rfl (sn2 rfl)<|Ts rfl (pF rfl rfl)<|As rfl rfl<|Tn ?_
 obtain rfl := o1 hm
 exact xJ ⟨rfl, rfl, lr⟩ (.refl _)
 rw [if_neg (fun hh => Bool.noConfusion (hh.symm.trans e))] at hm
 refine Tr 17 rfl (v' := .bool false) (by rw [e] <;> rfl)<|Ys 14 rfl rfl rfl<|Ts rfl (st_not_f rfl)<|Ts rfl (pF rfl rfl)<|M rfl rfl<|No 20 rfl rfl rfl rfl rfl<|No 20 rfl rfl rfl rfl rfl<|No 20 rfl rfl rfl rfl rfl<|No 20 rfl rfl rfl rfl rfl<|Ts rfl (pT rfl rfl) ?_
 refine As rfl rfl<|Tn ?_
 obtain rfl := o1 hm
 exact xJ ⟨rfl, rfl, lr⟩ (.refl _)
 rw [if_neg (fun hh => Bool.noConfusion (hh.symm.trans d))] at hm
 refine Tr 11 rfl (v' := .bool false) (by rw [d] <;> rfl)<|Ys 8 rfl rfl rfl<|Ts rfl (st_not_f rfl)<|Ts rfl (pF rfl rfl)<|M rfl rfl<|No 14 rfl rfl rfl rfl rfl<|No 14 rfl rfl rfl rfl rfl<|No 14 rfl rfl rfl rfl rfl<|No 14 rfl rfl rfl rfl rfl<|Ts rfl (pT rfl rfl) ?_
 refine M rfl rfl<|No 20 rfl rfl rfl rfl rfl<|No 20 rfl rfl rfl rfl rfl<|No 20 rfl rfl rfl rfl rfl<|No 20 rfl rfl rfl rfl rfl<|Ts rfl (pT rfl rfl)<|As rfl rfl<|Tn ?_
 obtain rfl := o1 hm
 exact xJ ⟨rfl, rfl, lr⟩ (.refl _)
 rw [if_neg (fun hh => Bool.noConfusion (hh.symm.trans c))] at hm
 refine Tr 6 rfl (v' := .bool false) (by rw [c] <;> rfl)<|Ts rfl (st_not_f rfl)<|M rfl rfl<|No 8 rfl rfl rfl rfl rfl<|No 8 rfl rfl rfl rfl rfl<|No 8 rfl rfl rfl rfl rfl<|No 8 rfl rfl rfl rfl rfl<|Ts rfl (pT rfl rfl)<|M rfl rfl<|No 14 rfl rfl rfl rfl rfl ?_
 refine No 14 rfl rfl rfl rfl rfl<|No 14 rfl rfl rfl rfl rfl<|No 14 rfl rfl rfl rfl rfl<|Ts rfl (pT rfl rfl)<|M rfl rfl<|No 20 rfl rfl rfl rfl rfl<|No 20 rfl rfl rfl rfl rfl<|No 20 rfl rfl rfl rfl rfl<|No 20 rfl rfl rfl rfl rfl<|Ts rfl (pT rfl rfl) ?_
 refine As rfl rfl<|Tn ?_
 obtain rfl := o1 hm
 exact xJ ⟨rfl, rfl, lr⟩ (.refl _)
 rintro n _ _ ⟨rfl, rfl, i⟩
 have hm := x
 refine Cc _ rfl (fun j => ?_) (fun j => ?_)
 rw [if_pos j] at hm
 refine Cr<|As rfl rfl<|Te<|Ct<|Xb<|Xr ?_
 obtain rfl := o1 hm
 exact rM (rs := [.tmp 2]) (vs := [iv 2]) ⟨rfl, trivial⟩ ⟨rfl, rfl⟩ (.cons _ (.refl _)) i
 rw [if_neg (fun hh => Bool.noConfusion (hh.symm.trans j))] at hm
 refine Cr<|Ts rfl (sF rfl fld38_5)<|Ts rfl (sL 0 rfl one27 rfl rfl)<|Ts rfl (sE rfl sl27) ?_
 obtain ⟨D, E, hm⟩ := bS hm
 refine Do rfl (uW _ call16 rfl (fun w ho => cFareWithin _ [] (a.Zones.length : Int) 1 10 D E) (fun _ _ _ h => h.2.symm)) ?_
 rintro _ _ ⟨⟨_, rfl, _⟩, rfl⟩
 refine Ts rfl (sn2 rfl)<|As rfl rfl<|Te ?_
 refine Cc _ rfl (fun k => ?_) (fun k => ?_)
 rw [if_neg (fun hh => Bool.noConfusion (hh.symm.trans (nt k)))] at hm
 refine Cr<|As rfl rfl<|Te<|Ct<|Xb<|Xr ?_
 obtain rfl := o1 hm
 exact rM (rs := [.tmp 2]) (vs := [iv 4]) ⟨rfl, trivial⟩ ⟨rfl, rfl⟩ (.cons _ (.refl _)) i
 rw [if_pos (nf k)] at hm
 refine Ck<|Xm<|Xn<|Cr<|Ts rfl (sF rfl fld38_5)<|Ts rfl (sL 0 rfl one27 rfl rfl) ?_
 obtain ⟨r, F, hm⟩ := bS hm
 refine Do rfl (uW _ call17 rfl (fun w ho => cFareCheckZones _ [] a.Zones false f g ((s.le i).old ho) r F) (fun _ _ _ h => h.2.symm)) ?_
 rintro _ _ ⟨⟨_, rfl, _⟩, rfl⟩
 refine As rfl rfl<|Te<|Ct ?_
 obtain rfl := o1 hm
 exact rM (rs := [.tmp 2]) (vs := [iv r]) ⟨rfl, trivial⟩ ⟨rfl, rfl⟩ (.cons _ (.refl _)) i

set_option maxRecDepth 20000 in
theorem cFareTariffPrice_1 (b : Base) (R : Hp) (a : FareBand) (c : Int) (d : Nat) (e : Bool) (hm : mFareTariffPrice_1 a c = some e) :
    CallsG Tryz.prog 30 [.agg #[iv a.Upto, iv a.Price], pb d] b ((d, Cl 3 [iv c]) :: R) (fun v b' hp' => bv e = v ∧ (d, Cl 3 [iv c]) :: R = hp') := by
 refine fE 8 Tryz.func30 rfl Tryz.ntmps30 rfl ?_
 unfold mFareTariffPrice_1 at hm
 refine Cr<|Do rfl (uB _ rfl rfl) ?_
 rintro _ _ ⟨f, rfl, rfl⟩
 refine As rfl rfl<|Te<|Cr<|Ts rfl (sF rfl fld45_0)<|Ts rfl (sL 0 rfl one3 rfl rfl)<|Ts rfl (sL 1 rfl one3 rfl rfl)<|Ts rfl (q6 rfl rfl)<|As rfl rfl<|Te<|Ct ?_
 obtain rfl := o1 hm
 refine Xp 1 rfl ?_
 exact rM (rs := [.tmp 3]) (vs := [.bool (decide (c ≤ a.Upto))]) ⟨rfl, trivial⟩ ⟨rfl, rfl⟩ (.cons_cons _ (.cons _ (.refl _))) lr

set_option maxRecDepth 20000 in
theorem cSlicesIndexFunc (b : Base) (R : Hp) (c : (List FareBand)) (d : Int) (a : Nat) (h : OA) (i : Nat) (n : FZ rFareBand b.w h i c) (o : Int) (hm : mSlicesIndexFunc c d = some o) :
    CallsG Tryz.prog 29 [sv h c i, .func (.func 30) #[] #[pb a]] b ((a, Cl 3 [iv d]) :: R) (fun v b' hp' => iv o = v ∧ (a, Cl 3 [iv d]) :: R = hp') := by
 refine fE 19 Tryz.func29 rfl Tryz.ntmps29 rfl ?_
 unfold mSlicesIndexFunc at hm
 refine Cr<|As rfl rfl<|Te<|Cs<|Cr<|M rfl rfl<|Ts rfl (sE rfl sl22)<|M rfl rfl<|Te<|Cb ?_
 have H : c.length ≤ 9223372036854775807 := (FZ.bd n)
 obtain ⟨I, s, g⟩ := bS hm
 refine cF (fun k => fun _ => fun l e' hp' => [(0, sv h c i), (1, .func (.func 30) #[] #[pb a]), (7, iv ((c.length : Int))), (8, iv ((k : Int)))] = e' ∧ (a, Cl 3 [iv d]) :: R = hp' ∧ b.Le l) s ⟨rfl, rfl, lr⟩ (.refl _) ?_ ?_
 rintro k _ l _ _ J K ⟨rfl, rfl, e⟩ p t
 unfold mSlicesIndexFunc_L48 at p
 have hm := p
 refine Cr<|Ts rfl (lT rfl rfl (by omega))<|Te<|Cs<|c_cond_t rfl<|Ck<|Xn<|Cs<|Cb<|Cr ?_
 refine M rfl rfl<|As rfl rfl<|Te<|Cr<|M rfl rfl<|M rfl rfl<|M rfl rfl ?_
 obtain ⟨f, w, hm⟩ := bS hm
 obtain ⟨x, y, z⟩ := iS w
 obtain ⟨L, A, B, q, C⟩ := FZ.get (sz := 2) rfl (by decide) (n.le e) z
 obtain ⟨_, _, rfl, rfl, rfl⟩ := A
 refine Ts rfl (sI x rfl rfl y C q sl22)<|Ts rfl (sP (vs := [iv f.Upto, iv f.Price]) 2 rfl agg45 q rfl (fun j u hu => B j u hu)) ?_
 obtain ⟨D, E, hm⟩ := bS hm
 refine Tv #[] #[pb a] [.agg #[iv f.Upto, iv f.Price]] rfl rfl call30 rfl (cFareTariffPrice_1 _ _ f d a D E) ?_
 rintro _ O _ r ⟨rfl, rfl⟩
 refine Te ?_
 refine Cc _ rfl (fun m => ?_) (fun m => ?_)
 rw [if_pos m] at hm
 refine Cr<|M rfl rfl<|As rfl rfl<|Te<|Ct<|Xb<|Xr<|Xr<|Xb<|Xr ?_
 have F := t _ (Option.some.inj hm).symm
 rw [F] at g
 have hm := elimR g
 obtain rfl := o1 hm
 exact rM (rs := [.tmp 4]) (vs := [iv ((k : Int))]) ⟨rfl, trivial⟩ ⟨rfl, rfl⟩ (.refl _) (e.trans r)
 rw [if_neg (fun hh => Bool.noConfusion (hh.symm.trans m))] at hm
 refine Ck<|Xm<|Xn<|Cg<|Ts rfl (sa rfl rfl (by omega))<|M rfl rfl<|Tn ?_
 exact xM hm ⟨rfl, rfl, ((e.trans r))⟩ (.refl _)
 rintro _ l _ _ ⟨rfl, rfl, e⟩ G
 rw [G] at g
 have hm := elimL g
 refine Cr<|Ts rfl (lF rfl rfl (by omega))<|Te<|Cs<|c_cond_f rfl<|Ce<|Xe<|Xe<|Xo<|Xn ?_
 refine Cr<|As rfl rfl<|Te<|Ct ?_
 obtain rfl := o1 hm
 exact rM (rs := [.tmp 4]) (vs := [iv ((-1))]) ⟨rfl, trivial⟩ ⟨rfl, rfl⟩ (.refl _) e

set_option maxRecDepth 20000 in
theorem cFareCondHolds_1 (b : Base) (R : Hp) (e : Int) (f : Int) (a : Int) (c : Int) (d : (List FareCond)) (g : Nat) (i : OA) (j : Nat) (n : FZ rFareCond b.w i j d) (k : Bool) (hm : mFareCondHolds_1 e f a c d = some k) :
    CallsG Tryz.prog 50 [iv e, pb g] b ((g, Cl 48 [iv f, iv a, iv c, sv i d j]) :: R) (fun v b' hp' => bv k = v ∧ (g, Cl 48 [iv f, iv a, iv c, sv i d j]) :: R = hp') := by
 refine fE 10 Tryz.func50 rfl Tryz.ntmps50 rfl ?_
 unfold mFareCondHolds_1 at hm
 refine Cr<|As rfl rfl<|Te<|Cr<|M rfl rfl<|Ts rfl (sF rfl fld48_1)<|Ts rfl (sL 0 rfl one3 rfl rfl)<|Ts rfl (sF rfl fld48_2)<|Ts rfl (sL 0 rfl one3 rfl rfl) ?_
 obtain ⟨l, m, hm⟩ := bS hm
 refine Do rfl (uW _ call16 rfl (fun w ho => cFareWithin _ [] e a c l m) (fun _ _ _ h => h.2.symm)) ?_
 rintro _ _ ⟨⟨_, rfl, _⟩, rfl⟩
 refine As rfl rfl<|Te<|Ct ?_
 obtain rfl := o1 hm
 exact rM (rs := [.tmp 3]) (vs := [bv l]) ⟨rfl, trivial⟩ ⟨rfl, rfl⟩ (.refl _) lr

set_option maxRecDepth 20000 in
theorem cSlicesIndex (b : Base) (R : Hp) (a : (List Int)) (e : Int) (f : OA) (g : Nat) (k : FZ rI b.w f g a) (l : Int) (hm : mSlicesIndex a e = some l) :
    CallsG Tryz.prog 55 [sv f a g, iv e] b (R) (fun v b' hp' => iv l = v ∧ R = hp') := by
 refine fE 19 Tryz.func55 rfl Tryz.ntmps55 rfl ?_
 unfold mSlicesIndex at hm
 refine Cr<|As rfl rfl<|Te<|Cs<|Cr<|M rfl rfl<|Ts rfl (sE rfl sl27)<|M rfl rfl<|Te<|Cb ?_
 have A : a.length ≤ 9223372036854775807 := (FZ.bd k)
 obtain ⟨B, n, d⟩ := bS hm
 refine cF (fun h => fun _ => fun i e' hp' => [(0, sv f a g), (1, iv e), (7, iv ((a.length : Int))), (8, iv ((h : Int)))] = e' ∧ R = hp' ∧ b.Le i) n ⟨rfl, rfl, lr⟩ (.refl _) ?_ ?_
 rintro h _ i _ _ C D ⟨rfl, rfl, c⟩ m o
 unfold mSlicesIndex_L39 at m
 have hm := m
 refine Cr<|Ts rfl (lT rfl rfl (by omega))<|Te<|Cs<|c_cond_t rfl<|Ck<|Xn<|Cs<|Cb<|Cr ?_
 refine M rfl rfl<|As rfl rfl<|Te<|Cr<|M rfl rfl<|M rfl rfl<|M rfl rfl ?_
 obtain ⟨E, p, hm⟩ := bS hm
 obtain ⟨q, r, s⟩ := iS p
 obtain ⟨F, t, u, w, x⟩ := FZ.get (sz := 1) rfl (by decide) (k.le c) s
 obtain rfl := t
 refine Ts rfl (sI q rfl rfl r x w sl27)<|Ts rfl (sO rfl one3 (u 0 _ rfl))<|Ts rfl (q1 rfl rfl)<|Te ?_
 refine Cc _ rfl (fun j => ?_) (fun j => ?_)
 rw [if_pos (of_decide_eq_true j)] at hm
 refine Cr<|M rfl rfl<|As rfl rfl<|Te<|Ct<|Xb<|Xr<|Xr<|Xb<|Xr ?_
 have y := o _ (Option.some.inj hm).symm
 rw [y] at d
 have hm := elimR d
 obtain rfl := o1 hm
 exact rM (rs := [.tmp 4]) (vs := [iv ((h : Int))]) ⟨rfl, trivial⟩ ⟨rfl, rfl⟩ (.refl _) c
 rw [if_neg (of_decide_eq_false j)] at hm
 refine Ck<|Xm<|Xn<|Cg<|Ts rfl (sa rfl rfl (by omega))<|M rfl rfl<|Tn ?_
 exact xM hm ⟨rfl, rfl, (c)⟩ (.refl _)
 rintro _ i _ _ ⟨rfl, rfl, c⟩ z
 rw [z] at d
 have hm := elimL d
 refine Cr<|Ts rfl (lF rfl rfl (by omega))<|Te<|Cs<|c_cond_f rfl<|Ce<|Xe<|Xe<|Xo<|Xn ?_
 refine Cr<|As rfl rfl<|Te<|Ct ?_
 obtain rfl := o1 hm
 exact rM (rs := [.tmp 4]) (vs := [iv ((-1))]) ⟨rfl, trivial⟩ ⟨rfl, rfl⟩ (.refl _) c

set_option maxRecDepth 20000 in
theorem cSlicesContains (b : Base) (R : Hp) (a : (List Int)) (c : Int) (d : OA) (e : Nat) (i : FZ rI b.w d e a) (f : Bool) (hm : mSlicesContains a c = some f) :
    CallsG Tryz.prog 36 [sv d a e, iv c] b (R) (fun v b' hp' => bv f = v ∧ R = hp') := by
 refine fE 9 Tryz.func36 rfl Tryz.ntmps36 rfl ?_
 unfold mSlicesContains at hm
 refine Cr<|As rfl rfl<|Te<|Cr<|M rfl rfl<|M rfl rfl ?_
 obtain ⟨g, j, hm⟩ := bS hm
 refine Do rfl (uW _ call55 rfl (fun w ho => cSlicesIndex _ [] a c d e (i.old ho) g j) (fun _ _ _ h => h.2.symm)) ?_
 rintro _ _ ⟨⟨_, rfl, _⟩, rfl⟩
 refine Ts rfl (q6 rfl rfl)<|As rfl rfl<|Te<|Ct ?_
 obtain rfl := o1 hm
 exact rM (rs := [.tmp 4]) (vs := [.bool (decide (0 ≤ g))]) ⟨rfl, trivial⟩ ⟨rfl, rfl⟩ (.refl _) lr

set_option maxRecDepth 20000 in
theorem cFareCondHolds_2_5 (rcmFareCondHolds : (FareCond) → (FareTrip) → Option (Bool)) (ihmFareCondHolds : ∀ (b : Base) (R : Hp) (d : FareCond) (a : FareTrip) (q : OA) (r : Nat) (s : OA) (t : Nat) (C : FZ rFareCond b.w q r d.Kids) (D : FZ rI b.w s t a.Zones) (u : Bool) (hm : rcmFareCondHolds d a = some u),
    CallsG Tryz.prog 31 [.agg #[iv d.Kind, iv d.A, iv d.B, sv q d.Kids r], .agg #[iv a.Day, iv a.At, iv a.Km, iv a.Age, bv a.Card, sv s a.Zones t]] b (R) (fun v b' hp' => bv u = v ∧ R = hp')) (b : Base) (R : Hp) (c : FareCond) (f : Int) (g : Int) (i : Int) (j : Int) (k : Bool) (e : (List Int)) (n : Nat) (o : OA) (p : Nat) (l : OA) (m : Nat) (z : FZ rFareCond b.w o p c.Kids) (A : FZ rI b.w l m e) (x : Bool) (hm : mFareCondHolds_2_5 rcmFareCondHolds c f g i j k e = some x) :
    CallsG Tryz.prog 52 [.agg #[iv c.Kind, iv c.A, iv c.B, sv o c.Kids p], pb n] b ((n, Cl 38 [iv f, iv g, iv i, iv j, bv k, sv l e m]) :: R) (fun v b' hp' => bv x = v ∧ (n, Cl 38 [iv f, iv g, iv i, iv j, bv k, sv l e m]) :: R = hp') := by
 refine fE 8 Tryz.func52 rfl Tryz.ntmps52 rfl ?_
 unfold mFareCondHolds_2_5 at hm
 refine Cr<|Do rfl (uB _ rfl rfl) ?_
 rintro _ _ ⟨E, rfl, rfl⟩
 refine As rfl rfl<|Te<|Cr<|Ts rfl (sD (vs := [_, _, _, _]) 0 4 rfl agg48 rfl rfl rfl)<|Ts rfl (sD (vs := [_, _, _, _, _, _]) 1 6 rfl agg38 rfl rfl rfl) ?_
 obtain ⟨y, B, hm⟩ := bS hm
 refine Do rfl (uW _ call31 rfl (fun w ho => ihmFareCondHolds _ [] c (⟨f, g, i, j, k, e⟩ : FareTrip) o p l m (z.old ho) (A.old ho) y B) (fun _ _ _ h => h.2.symm)) ?_
 rintro _ _ ⟨⟨_, rfl, _⟩, rfl⟩
 refine Ts rfl (sn2 rfl)<|As rfl rfl<|Te<|Ct ?_
 obtain rfl := o1 hm
 refine Xp 1 rfl ?_
 exact rM (rs := [.tmp 3]) (vs := [.bool (!y)]) ⟨rfl, trivial⟩ ⟨rfl, rfl⟩ (.cons_cons _ (.cons _ (.refl _))) lr

set_option maxRecDepth 20000 in
theorem cSlicesIndexFunc_2 (rcmFareCondHolds : (FareCond) → (FareTrip) → Option (Bool)) (ihmFareCondHolds : ∀ (b : Base) (R : Hp) (e : FareCond) (c : FareTrip) (f : OA) (g : Nat) (B : OA) (C : Nat) (t : FZ rFareCond b.w f g e.Kids) (h8 : FZ rI b.w B C c.Zones) (D : Bool) (hm : rcmFareCondHolds e c = some D),
    CallsG Tryz.prog 31 [.agg #[iv e.Kind, iv e.A, iv e.B, sv f e.Kids g], .agg #[iv c.Day, iv c.At, iv c.Km, iv c.Age, bv c.Card, sv B c.Zones C]] b (R) (fun v b' hp' => bv D = v ∧ R = hp')) (b : Base) (R : Hp) (h : (List FareCond)) (l : Int) (m : Int) (n : Int) (o : Int) (p : Bool) (i : (List Int)) (d : Nat) (f : OA) (g : Nat) (q : OA) (r : Nat) (t : FZ rFareCond b.w f g h) (I : FZ rI b.w q r i) (E : Int) (hm : mSlicesIndexFunc_2 rcmFareCondHolds h l m n o p i = some E) :
    CallsG Tryz.prog 68 [sv f h g, .func (.func 52) #[] #[pb d]] b ((d, Cl 38 [iv l, iv m, iv n, iv o, bv p, sv q i r]) :: R) (fun v b' hp' => iv E = v ∧ (d, Cl 38 [iv l, iv m, iv n, iv o, bv p, sv q i r]) :: R = hp') := by
 refine fE 19 Tryz.func68 rfl Tryz.ntmps68 rfl ?_
 unfold mSlicesIndexFunc_2 at hm
 refine Cr<|As rfl rfl<|Te<|Cs<|Cr<|M rfl rfl<|Ts rfl (sE rfl sl46)<|M rfl rfl<|Te<|Cb ?_
 have hb63 : h.length ≤ 9223372036854775807 := (FZ.bd t)
 obtain ⟨t85, J, s⟩ := bS hm
 refine cF (fun w => fun _ => fun x e' hp' => [(0, sv f h g), (1, .func (.func 52) #[] #[pb d]), (7, iv ((h.length : Int))), (8, iv ((w : Int)))] = e' ∧ (d, Cl 38 [iv l, iv m, iv n, iv o, bv p, sv q i r]) :: R = hp' ∧ b.Le x) J ⟨rfl, rfl, lr⟩ (.refl _) ?_ ?_
 rintro w _ x _ _ oL62 hknL62 ⟨rfl, rfl, k⟩ F K
 unfold mSlicesIndexFunc_2_L62 at F
 have hm := F
 refine Cr<|Ts rfl (lT rfl rfl (by omega))<|Te<|Cs<|c_cond_t rfl<|Ck<|Xn<|Cs<|Cb<|Cr ?_
 refine M rfl rfl<|As rfl rfl<|Te<|Cr<|M rfl rfl<|M rfl rfl<|M rfl rfl ?_
 obtain ⟨a, L, hm⟩ := bS hm
 obtain ⟨O, S, T⟩ := iS L
 obtain ⟨cs93, U, V, G, W⟩ := FZ.get (sz := 4) rfl (by decide) (t.le k) T
 obtain ⟨_, _, rfl, rfl, ⟨_, _, rfl, rfl, ⟨_, _, rfl, rfl, ⟨y, z, rfl, X⟩⟩⟩⟩ := U
 refine Ts rfl (sI O rfl rfl S W G sl46)<|Ts rfl (sP (vs := [iv a.Kind, iv a.A, iv a.B, sv y a.Kids z]) 4 rfl agg48 G rfl (fun j u hu => V j u hu)) ?_
 obtain ⟨Y, Z, hm⟩ := bS hm
 refine Tv #[] #[pb d] [.agg #[iv a.Kind, iv a.A, iv a.B, sv y a.Kids z]] rfl rfl call52 rfl (cFareCondHolds_2_5 rcmFareCondHolds ihmFareCondHolds _ _ a l m n o p i d y z q r (rFareCond_in X) (I.le k) Y Z) ?_
 rintro _ b103 _ H ⟨rfl, rfl⟩
 refine Te ?_
 refine Cc _ rfl (fun A => ?_) (fun A => ?_)
 rw [if_pos A] at hm
 refine Cr<|M rfl rfl<|As rfl rfl<|Te<|Ct<|Xb<|Xr<|Xr<|Xb<|Xr ?_
 have aa := K _ (Option.some.inj hm).symm
 rw [aa] at s
 have hm := elimR s
 obtain rfl := o1 hm
 exact rM (rs := [.tmp 4]) (vs := [iv ((w : Int))]) ⟨rfl, trivial⟩ ⟨rfl, rfl⟩ (.refl _) (k.trans H)
 rw [if_neg (fun hh => Bool.noConfusion (hh.symm.trans A))] at hm
 refine Ck<|Xm<|Xn<|Cg<|Ts rfl (sa rfl rfl (by omega))<|M rfl rfl<|Tn ?_
 exact xM hm ⟨rfl, rfl, ((k.trans H))⟩ (.refl _)
 rintro _ x _ _ ⟨rfl, rfl, k⟩ ab
 rw [ab] at s
 have hm := elimL s
 refine Cr<|Ts rfl (lF rfl rfl (by omega))<|Te<|Cs<|c_cond_f rfl<|Ce<|Xe<|Xe<|Xo<|Xn ?_
 refine Cr<|As rfl rfl<|Te<|Ct ?_
 obtain rfl := o1 hm
 exact rM (rs := [.tmp 4]) (vs := [iv ((-1))]) ⟨rfl, trivial⟩ ⟨rfl, rfl⟩ (.refl _) k

set_option maxRecDepth 20000 in
theorem cSlicesContainsFunc (rcmFareCondHolds : (FareCond) → (FareTrip) → Option (Bool)) (ihmFareCondHolds : ∀ (b : Base) (R : Hp) (c : FareCond) (a : FareTrip) (d : OA) (e : Nat) (p : OA) (q : Nat) (r : FZ rFareCond b.w d e c.Kids) (z : FZ rI b.w p q a.Zones) (s : Bool) (hm : rcmFareCondHolds c a = some s),
    CallsG Tryz.prog 31 [.agg #[iv c.Kind, iv c.A, iv c.B, sv d c.Kids e], .agg #[iv a.Day, iv a.At, iv a.Km, iv a.Age, bv a.Card, sv p a.Zones q]] b (R) (fun v b' hp' => bv s = v ∧ R = hp')) (b : Base) (R : Hp) (g : (List FareCond)) (h : Int) (i : Int) (j : Int) (k : Int) (l : Bool) (f : (List Int)) (m : Nat) (d : OA) (e : Nat) (n : OA) (o : Nat) (r : FZ rFareCond b.w d e g) (w : FZ rI b.w n o f) (t : Bool) (hm : mSlicesContainsFunc rcmFareCondHolds g h i j k l f = some t) :
    CallsG Tryz.prog 51 [sv d g e, .func (.func 52) #[] #[pb m]] b ((m, Cl 38 [iv h, iv i, iv j, iv k, bv l, sv n f o]) :: R) (fun v b' hp' => bv t = v ∧ (m, Cl 38 [iv h, iv i, iv j, iv k, bv l, sv n f o]) :: R = hp') := by
 refine fE 9 Tryz.func51 rfl Tryz.ntmps51 rfl ?_
 unfold mSlicesContainsFunc at hm
 refine Cr<|As rfl rfl<|Te<|Cr<|M rfl rfl<|M rfl rfl ?_
 obtain ⟨u, x, hm⟩ := bS hm
 refine Tg _ rfl call68 rfl (cSlicesIndexFunc_2 rcmFareCondHolds ihmFareCondHolds _ _ g h i j k l f m d e n o r w u x) ?_
 rintro _ A _ y ⟨rfl, rfl⟩
 refine Ts rfl (q6 rfl rfl)<|As rfl rfl<|Te<|Ct ?_
 obtain rfl := o1 hm
 exact rM (rs := [.tmp 4]) (vs := [.bool (decide (0 ≤ u))]) ⟨rfl, trivial⟩ ⟨rfl, rfl⟩ (.refl _) y

set_option maxRecDepth 20000 in
theorem cFareCondHolds_3_5 (rcmFareCondHolds : (FareCond) → (FareTrip) → Option (Bool)) (ihmFareCondHolds : ∀ (b : Base) (R : Hp) (d : FareCond) (a : FareTrip) (q : OA) (r : Nat) (s : OA) (t : Nat) (C : FZ rFareCond b.w q r d.Kids) (D : FZ rI b.w s t a.Zones) (u : Bool) (hm : rcmFareCondHolds d a = some u),
    CallsG Tryz.prog 31 [.agg #[iv d.Kind, iv d.A, iv d.B, sv q d.Kids r], .agg #[iv a.Day, iv a.At, iv a.Km, iv a.Age, bv a.Card, sv s a.Zones t]] b (R) (fun v b' hp' => bv u = v ∧ R = hp')) (b : Base) (R : Hp) (c : FareCond) (f : Int) (g : Int) (i : Int) (j : Int) (k : Bool) (e : (List Int)) (n : Nat) (o : OA) (p : Nat) (l : OA) (m : Nat) (z : FZ rFareCond b.w o p c.Kids) (A : FZ rI b.w l m e) (x : Bool) (hm : mFareCondHolds_3_5 rcmFareCondHolds c f g i j k e = some x) :
    CallsG Tryz.prog 53 [.agg #[iv c.Kind, iv c.A, iv c.B, sv o c.Kids p], pb n] b ((n, Cl 38 [iv f, iv g, iv i, iv j, bv k, sv l e m]) :: R) (fun v b' hp' => bv x = v ∧ (n, Cl 38 [iv f, iv g, iv i, iv j, bv k, sv l e m]) :: R = hp') := by
 refine fE 7 Tryz.func53 rfl Tryz.ntmps53 rfl ?_
 unfold mFareCondHolds_3_5 at hm
 refine Cr<|Do rfl (uB _ rfl rfl) ?_
 rintro _ _ ⟨E, rfl, rfl⟩
 refine As rfl rfl<|Te<|Cr<|Ts rfl (sD (vs := [_, _, _, _]) 0 4 rfl agg48 rfl rfl rfl)<|Ts rfl (sD (vs := [_, _, _, _, _, _]) 1 6 rfl agg38 rfl rfl rfl) ?_
 obtain ⟨y, B, hm⟩ := bS hm
 refine Do rfl (uW _ call31 rfl (fun w ho => ihmFareCondHolds _ [] c (⟨f, g, i, j, k, e⟩ : FareTrip) o p l m (z.old ho) (A.old ho) y B) (fun _ _ _ h => h.2.symm)) ?_
 rintro _ _ ⟨⟨_, rfl, _⟩, rfl⟩
 refine As rfl rfl<|Te<|Ct ?_
 obtain rfl := o1 hm
 refine Xp 1 rfl ?_
 exact rM (rs := [.tmp 3]) (vs := [bv y]) ⟨rfl, trivial⟩ ⟨rfl, rfl⟩ (.cons_cons _ (.cons _ (.refl _))) lr

set_option maxRecDepth 20000 in
theorem cSlicesIndexFunc_3 (rcmFareCondHolds : (FareCond) → (FareTrip) → Option (Bool)) (ihmFareCondHolds : ∀ (b : Base) (R : Hp) (e : FareCond) (c : FareTrip) (f : OA) (g : Nat) (B : OA) (C : Nat) (t : FZ rFareCond b.w f g e.Kids) (h8 : FZ rI b.w B C c.Zones) (D : Bool) (hm : rcmFareCondHolds e c = some D),
    CallsG Tryz.prog 31 [.agg #[iv e.Kind, iv e.A, iv e.B, sv f e.Kids g], .agg #[iv c.Day, iv c.At, iv c.Km, iv c.Age, bv c.Card, sv B c.Zones C]] b (R) (fun v b' hp' => bv D = v ∧ R = hp')) (b : Base) (R : Hp) (h : (List FareCond)) (l : Int) (m : Int) (n : Int) (o : Int) (p : Bool) (i : (List Int)) (d : Nat) (f : OA) (g : Nat) (q : OA) (r : Nat) (t : FZ rFareCond b.w f g h) (I : FZ rI b.w q r i) (E : Int) (hm : mSlicesIndexFunc_3 rcmFareCondHolds h l m n o p i = some E) :
    CallsG Tryz.prog 68 [sv f h g, .func (.func 53) #[] #[pb d]] b ((d, Cl 38 [iv l, iv m, iv n, iv o, bv p, sv q i r]) :: R) (fun v b' hp' => iv E = v ∧ (d, Cl 38 [iv l, iv m, iv n, iv o, bv p, sv q i r]) :: R = hp') := by
 refine fE 19 Tryz.func68 rfl Tryz.ntmps68 rfl ?_
 unfold mSlicesIndexFunc_3 at hm
 refine Cr<|As rfl rfl<|Te<|Cs<|Cr<|M rfl rfl<|Ts rfl (sE rfl sl46)<|M rfl rfl<|Te<|Cb ?_
 have hb63 : h.length ≤ 9223372036854775807 := (FZ.bd t)
 obtain ⟨t85, J, s⟩ := bS hm
 refine cF (fun w => fun _ => fun x e' hp' => [(0, sv f h g), (1, .func (.func 53) #[] #[pb d]), (7, iv ((h.length : Int))), (8, iv ((w : Int)))] = e' ∧ (d, Cl 38 [iv l, iv m, iv n, iv o, bv p, sv q i r]) :: R = hp' ∧ b.Le x) J ⟨rfl, rfl, lr⟩ (.refl _) ?_ ?_
 rintro w _ x _ _ oL62 hknL62 ⟨rfl, rfl, k⟩ F K
 unfold mSlicesIndexFunc_3_L62 at F
 have hm := F
 refine Cr<|Ts rfl (lT rfl rfl (by omega))<|Te<|Cs<|c_cond_t rfl<|Ck<|Xn<|Cs<|Cb<|Cr ?_
 refine M rfl rfl<|As rfl rfl<|Te<|Cr<|M rfl rfl<|M rfl rfl<|M rfl rfl ?_
 obtain ⟨a, L, hm⟩ := bS hm
 obtain ⟨O, S, T⟩ := iS L
 obtain ⟨cs93, U, V, G, W⟩ := FZ.get (sz := 4) rfl (by decide) (t.le k) T
 obtain ⟨_, _, rfl, rfl, ⟨_, _, rfl, rfl, ⟨_, _, rfl, rfl, ⟨y, z, rfl, X⟩⟩⟩⟩ := U
 refine Ts rfl (sI O rfl rfl S W G sl46)<|Ts rfl (sP (vs := [iv a.Kind, iv a.A, iv a.B, sv y a.Kids z]) 4 rfl agg48 G rfl (fun j u hu => V j u hu)) ?_
 obtain ⟨Y, Z, hm⟩ := bS hm
 refine Tv #[] #[pb d] [.agg #[iv a.Kind, iv a.A, iv a.B, sv y a.Kids z]] rfl rfl call53 rfl (cFareCondHolds_3_5 rcmFareCondHolds ihmFareCondHolds _ _ a l m n o p i d y z q r (rFareCond_in X) (I.le k) Y Z) ?_
 rintro _ b103 _ H ⟨rfl, rfl⟩
 refine Te ?_
 refine Cc _ rfl (fun A => ?_) (fun A => ?_)
 rw [if_pos A] at hm
 refine Cr<|M rfl rfl<|As rfl rfl<|Te<|Ct<|Xb<|Xr<|Xr<|Xb<|Xr ?_
 have aa := K _ (Option.some.inj hm).symm
 rw [aa] at s
 have hm := elimR s
 obtain rfl := o1 hm
 exact rM (rs := [.tmp 4]) (vs := [iv ((w : Int))]) ⟨rfl, trivial⟩ ⟨rfl, rfl⟩ (.refl _) (k.trans H)
 rw [if_neg (fun hh => Bool.noConfusion (hh.symm.trans A))] at hm
 refine Ck<|Xm<|Xn<|Cg<|Ts rfl (sa rfl rfl (by omega))<|M rfl rfl<|Tn ?_
 exact xM hm ⟨rfl, rfl, ((k.trans H))⟩ (.refl _)
 rintro _ x _ _ ⟨rfl, rfl, k⟩ ab
 rw [ab] at s
 have hm := elimL s
 refine Cr<|Ts rfl (lF rfl rfl (by omega))<|Te<|Cs<|c_cond_f rfl<|Ce<|Xe<|Xe<|Xo<|Xn ?_
 refine Cr<|As rfl rfl<|Te<|Ct ?_
 obtain rfl := o1 hm
 exact rM (rs := [.tmp 4]) (vs := [iv ((-1))]) ⟨rfl, trivial⟩ ⟨rfl, rfl⟩ (.refl _) k

set_option maxRecDepth 20000 in
theorem cSlicesContainsFunc_2 (rcmFareCondHolds : (FareCond) → (FareTrip) → Option (Bool)) (ihmFareCondHolds : ∀ (b : Base) (R : Hp) (c : FareCond) (a : FareTrip) (d : OA) (e : Nat) (p : OA) (q : Nat) (r : FZ rFareCond b.w d e c.Kids) (z : FZ rI b.w p q a.Zones) (s : Bool) (hm : rcmFareCondHolds c a = some s),
    CallsG Tryz.prog 31 [.agg #[iv c.Kind, iv c.A, iv c.B, sv d c.Kids e], .agg #[iv a.Day, iv a.At, iv a.Km, iv a.Age, bv a.Card, sv p a.Zones q]] b (R) (fun v b' hp' => bv s = v ∧ R = hp')) (b : Base) (R : Hp) (g : (List FareCond)) (h : Int) (i : Int) (j : Int) (k : Int) (l : Bool) (f : (List Int)) (m : Nat) (d : OA) (e : Nat) (n : OA) (o : Nat) (r : FZ rFareCond b.w d e g) (w : FZ rI b.w n o f) (t : Bool) (hm : mSlicesContainsFunc_2 rcmFareCondHolds g h i j k l f = some t) :
    CallsG Tryz.prog 51 [sv d g e, .func (.func 53) #[] #[pb m]] b ((m, Cl 38 [iv h, iv i, iv j, iv k, bv l, sv n f o]) :: R) (fun v b' hp' => bv t = v ∧ (m, Cl 38 [iv h, iv i, iv j, iv k, bv l, sv n f o]) :: R = hp') := by
 refine fE 9 Tryz.func51 rfl Tryz.ntmps51 rfl ?_
 unfold mSlicesContainsFunc_2 at hm
 refine Cr<|As rfl rfl<|Te<|Cr<|M rfl rfl<|M rfl rfl ?_
 obtain ⟨u, x, hm⟩ := bS hm
 refine Tg _ rfl call68 rfl (cSlicesIndexFunc_3 rcmFareCondHolds ihmFareCondHolds _ _ g h i j k l f m d e n o r w u x) ?_
 rintro _ A _ y ⟨rfl, rfl⟩
 refine Ts rfl (q6 rfl rfl)<|As rfl rfl<|Te<|Ct ?_
 obtain rfl := o1 hm
 exact rM (rs := [.tmp 4]) (vs := [.bool (decide (0 ≤ u))]) ⟨rfl, trivial⟩ ⟨rfl, rfl⟩ (.refl _) y

set_option maxRecDepth 20000 in
theorem cFareCondHolds : ∀ (N : Nat) (b : Base) (R : Hp) (c : FareCond) (a : FareTrip) (d : OA) (e : Nat) (g : OA) (i : Nat) (f : FZ rFareCond b.w d e c.Kids) (k : FZ rI b.w g i a.Zones) (n : Bool) (hm : mFareCondHolds N c a = some n),
    CallsG Tryz.prog 31 [.agg #[iv c.Kind, iv c.A, iv c.B, sv d c.Kids e], .agg #[iv a.Day, iv a.At, iv a.Km, iv a.Age, bv a.Card, sv g a.Zones i]] b (R) (fun v b' hp' => bv n = v ∧ R = hp') := by
  intro N
  induction N with
  | zero =>
    intro b R c a d e g i f k n hm
    unfold mFareCondHolds at hm
    cases hm
  | succ N ih =>
   intro b R c a d e g i f k n hm
   refine fE 89 Tryz.func31 rfl Tryz.ntmps31 rfl ?_
   unfold mFareCondHolds at hm
   refine Cr<|Do rfl (uB _ rfl rfl) ?_
   rintro _ _ ⟨l, rfl, rfl⟩
   refine Do rfl (uB _ rfl rfl) ?_
   rintro _ _ ⟨D, rfl, rfl⟩
   refine As rfl rfl<|Te<|Cr<|Ts rfl (st_func _ _ rfl rfl)<|As rfl rfl<|Te<|Cs<|Cr<|Ts rfl (sF rfl fld48_0)<|Ts rfl (sL 1 rfl one3 rfl rfl) ?_
   refine Te<|Cb<|Cr<|Ts rfl (q1 rfl rfl)<|As rfl rfl<|Te ?_
   refine Cc _ rfl (fun o => ?_) (fun o => ?_)
   rw [if_pos (of_decide_eq_true o)] at hm
   refine Cr<|Ts rfl (sF rfl fld38_4)<|Ts rfl (sL 0 rfl one4 rfl rfl)<|As rfl rfl<|Te<|Ct<|Xb<|Xr ?_
   obtain rfl := o1 hm
   exact rM (rs := [.tmp 4]) (vs := [bv a.Card]) ⟨rfl, trivial⟩ ⟨rfl, rfl⟩ (.cons _ (.cons _ (.refl _))) lr
   rw [if_neg (of_decide_eq_false o)] at hm
   refine Cr<|Ts rfl (q1 rfl rfl)<|As rfl rfl<|Te ?_
   refine Cc _ rfl (fun p => ?_) (fun p => ?_)
   rw [if_pos (of_decide_eq_true p)] at hm
   refine Cr<|M rfl rfl<|Ts rfl (sF rfl fld38_3)<|Ts rfl (sL 0 rfl one3 rfl rfl) ?_
   obtain ⟨E, U, hm⟩ := bS hm
   refine t_pullb 1 rfl<|Tv #[] #[pb l] [iv a.Age] rfl rfl call50 rfl (cFareCondHolds_1 _ _ a.Age c.Kind c.A c.B c.Kids l d e f E U) ?_
   rintro _ aL _ V ⟨rfl, rfl⟩
   refine As rfl rfl<|Te<|Ct<|Xb<|Xr ?_
   obtain rfl := o1 hm
   exact rM (rs := [.tmp 4]) (vs := [bv E]) ⟨rfl, trivial⟩ ⟨rfl, rfl⟩ (.cons _ (.cons _ (.refl _))) V
   rw [if_neg (of_decide_eq_false p)] at hm
   refine Cr<|Ts rfl (q1 rfl rfl)<|As rfl rfl<|Te ?_
   refine Cc _ rfl (fun q => ?_) (fun q => ?_)
   rw [if_pos (of_decide_eq_true q)] at hm
   refine Cr<|M rfl rfl<|Ts rfl (sF rfl fld38_1)<|Ts rfl (sL 0 rfl one3 rfl rfl) ?_
   obtain ⟨F, W, hm⟩ := bS hm
   refine t_pullb 1 rfl<|Tv #[] #[pb l] [iv a.At] rfl rfl call50 rfl (cFareCondHolds_1 _ _ a.At c.Kind c.A c.B c.Kids l d e f F W) ?_
   rintro _ aM _ X ⟨rfl, rfl⟩
   refine As rfl rfl<|Te<|Ct<|Xb<|Xr ?_
   obtain rfl := o1 hm
   exact rM (rs := [.tmp 4]) (vs := [bv F]) ⟨rfl, trivial⟩ ⟨rfl, rfl⟩ (.cons _ (.cons _ (.refl _))) X
   rw [if_neg (of_decide_eq_false q)] at hm
   refine Cr<|Ts rfl (q1 rfl rfl)<|As rfl rfl<|Te ?_
   refine Cc _ rfl (fun r => ?_) (fun r => ?_)
   rw [if_pos (of_decide_eq_true r)] at hm
   refine Cr<|M rfl rfl<|Ts rfl (sF rfl fld38_2)<|Ts rfl (sL 0 rfl one3 rfl rfl) ?_
   obtain ⟨G, Y, hm⟩ := bS hm
   refine t_pullb 1 rfl<|Tv #[] #[pb l] [iv a.Km] rfl rfl call50 rfl (cFareCondHolds_1 _ _ a.Km c.Kind c.A c.B c.Kids l d e f G Y) ?_
   rintro _ aN _ Z ⟨rfl, rfl⟩
   refine As rfl rfl<|Te<|Ct<|Xb<|Xr ?_
   obtain rfl := o1 hm
   exact rM (rs := [.tmp 4]) (vs := [bv G]) ⟨rfl, trivial⟩ ⟨rfl, rfl⟩ (.cons _ (.cons _ (.refl _))) Z
   rw [if_neg (of_decide_eq_false r)] at hm
   refine Cr<|Ts rfl (q1 rfl rfl)<|As rfl rfl<|Te ?_
   refine Cc _ rfl (fun s => ?_) (fun s => ?_)
   rw [if_pos (of_decide_eq_true s)] at hm
   refine Cr<|M rfl rfl<|Ts rfl (sF rfl fld38_5)<|Ts rfl (sL 0 rfl one27 rfl rfl)<|Ts rfl (sE rfl sl27) ?_
   obtain ⟨H, aa, hm⟩ := bS hm
   refine t_pullb 1 rfl<|Tv #[] #[pb l] [iv ((a.Zones.length : Int))] rfl rfl call50 rfl (cFareCondHolds_1 _ _ (a.Zones.length : Int) c.Kind c.A c.B c.Kids l d e f H aa) ?_
   rintro _ aO _ ab ⟨rfl, rfl⟩
   refine As rfl rfl<|Te<|Ct<|Xb<|Xr ?_
   obtain rfl := o1 hm
   exact rM (rs := [.tmp 4]) (vs := [bv H]) ⟨rfl, trivial⟩ ⟨rfl, rfl⟩ (.cons _ (.cons _ (.refl _))) ab
   rw [if_neg (of_decide_eq_false s)] at hm
   refine Cr<|Ts rfl (q1 rfl rfl)<|As rfl rfl<|Te ?_
   refine Cc _ rfl (fun t => ?_) (fun t => ?_)
   rw [if_pos (of_decide_eq_true t)] at hm
   refine Cr<|Ts rfl (sF rfl fld38_5)<|Ts rfl (sL 0 rfl one27 rfl rfl)<|Ts rfl (sF rfl fld48_1)<|Ts rfl (sL 1 rfl one3 rfl rfl) ?_
   obtain ⟨I, ac, hm⟩ := bS hm
   refine Do rfl (uW _ call36 rfl (fun w ho => cSlicesContains _ [] a.Zones c.A g i (k.old ho) I ac) (fun _ _ _ h => h.2.symm)) ?_
   rintro _ _ ⟨⟨_, rfl, _⟩, rfl⟩
   refine As rfl rfl<|Te<|Ct<|Xb<|Xr ?_
   obtain rfl := o1 hm
   exact rM (rs := [.tmp 4]) (vs := [bv I]) ⟨rfl, trivial⟩ ⟨rfl, rfl⟩ (.cons _ (.cons _ (.refl _))) lr
   rw [if_neg (of_decide_eq_false t)] at hm
   refine Cr<|Ts rfl (q1 rfl rfl)<|As rfl rfl<|Te ?_
   refine Cc _ rfl (fun x => ?_) (fun x => ?_)
   rw [if_pos (of_decide_eq_true x)] at hm
   refine Cs ?_
   obtain ⟨ad, ae, hm⟩ := bS hm
   refine Di mixed (.refl _)<|E0 0 rfl (sF rfl fld38_5)<|Es 1 rfl (sL 0 rfl one27 rfl rfl) ?_
   obtain ⟨af, ag, ah⟩ := iS ae
   obtain ⟨aP, ai, aj, ak, al⟩ := FZ.get (sz := 1) rfl (by decide) k ah
   obtain rfl := ai
   refine E0 2 rfl (sI af rfl rfl ag al ak sl27)<|Es 3 rfl (sO rfl one3 (aj 0 _ rfl))<|E0 4 rfl (sF rfl fld48_1)<|Es 5 rfl (sL 1 rfl one3 rfl rfl)<|E0 6 rfl (q1 rfl rfl)<|E0 7 rfl (sA rfl)<|Eo<|Dd (by kernel_rfl)<|Xn<|Ct ?_
   refine Xb<|Xr ?_
   obtain rfl := o1 hm
   exact rM (rs := [.tmp 4]) (vs := [.bool (decide (ad = c.A))]) ⟨rfl, trivial⟩ ⟨rfl, rfl⟩ (.cons _ (.cons _ (.refl _))) lr
   rw [if_neg (of_decide_eq_false x)] at hm
   refine Cr<|Ts rfl (q1 rfl rfl)<|As rfl rfl<|Te ?_
   refine Cc _ rfl (fun y => ?_) (fun y => ?_)
   rw [if_pos (of_decide_eq_true y)] at hm
   refine Cs ?_
   obtain ⟨_, z, hm⟩ := bS hm
   obtain ⟨am, an, hm⟩ := bS hm
   refine Di mixed (.refl _)<|E0 0 rfl (sF rfl fld38_5)<|Es 1 rfl (sL 0 rfl one27 rfl rfl)<|E0 2 rfl (sF rfl fld38_5)<|Es 3 rfl (sL 0 rfl one27 rfl rfl)<|E0 4 rfl (sE rfl sl27) ?_
   have z := (kS z).2
   refine E0 5 rfl (sb rfl rfl z) ?_
   obtain ⟨ao, aq, ar⟩ := iS an
   obtain ⟨aQ, au, av, aw, ax⟩ := FZ.get (sz := 1) rfl (by decide) k ar
   obtain rfl := au
   refine E0 6 rfl (sI ao rfl rfl aq ax aw sl27)<|Es 7 rfl (sO rfl one3 (av 0 _ rfl))<|E0 8 rfl (sF rfl fld48_1)<|Es 9 rfl (sL 1 rfl one3 rfl rfl)<|E0 10 rfl (q1 rfl rfl)<|E0 11 rfl (sA rfl)<|Eo<|Dd (by kernel_rfl)<|Xn<|Ct ?_
   refine Xb<|Xr ?_
   obtain rfl := o1 hm
   exact rM (rs := [.tmp 4]) (vs := [.bool (decide (am = c.A))]) ⟨rfl, trivial⟩ ⟨rfl, rfl⟩ (.cons _ (.cons _ (.refl _))) lr
   rw [if_neg (of_decide_eq_false y)] at hm
   refine Cr<|Ts rfl (q1 rfl rfl)<|As rfl rfl<|Te ?_
   refine Cc _ rfl (fun A => ?_) (fun A => ?_)
   rw [if_pos (of_decide_eq_true A)] at hm
   refine Cs ?_
   obtain ⟨m, ay, hm⟩ := bS hm
   obtain ⟨J, az, hm⟩ := bS hm
   refine Di mixed (.refl _)<|E0 0 rfl (sF rfl fld48_3)<|Es 1 rfl (sL 1 rfl one46 rfl rfl) ?_
   obtain ⟨aA, aB, aC⟩ := iS ay
   obtain ⟨aR, aD, aE, K, aF⟩ := FZ.get (sz := 4) rfl (by decide) f aC
   obtain ⟨_, _, rfl, rfl, ⟨_, _, rfl, rfl, ⟨_, _, rfl, rfl, ⟨L, O, rfl, aG⟩⟩⟩⟩ := aD
   refine E0 2 rfl (sI aA rfl rfl aB aF K sl46)<|Es 3 rfl (sP (vs := [iv m.Kind, iv m.A, iv m.B, sv L m.Kids O]) 4 rfl agg48 K rfl (fun j u hu => aE j u hu))<|Es 4 rfl (sD (vs := [_, _, _, _, _, _]) 0 6 rfl agg38 rfl rfl rfl)<|Eo<|Da [5] (by kernel_rfl) rfl ?_
   refine Rd2 lr rfl rfl (uW _ call31 rfl (fun w ho => ih _ [] m a L O g i ((rFareCond_in aG).old ho) (k.old ho) J az) (fun _ _ _ h => h.2.symm)) ?_ ?_
   rintro _ _ ⟨⟨_, rfl, _⟩, rfl⟩
   refine ⟨.inr (.refl _), ?_⟩
   refine Ei lr (.refl _)<|E0 6 rfl (sn2 rfl)<|E0 7 rfl (sA rfl)<|Eo<|Dd (by kernel_rfl)<|Xn<|Ct<|Xb<|Xr ?_
   obtain rfl := o1 hm
   exact rM (rs := [.tmp 4]) (vs := [.bool (!J)]) ⟨rfl, trivial⟩ ⟨rfl, rfl⟩ (.cons _ (.cons _ (.refl _))) lr
   exact Rn
   rw [if_neg (of_decide_eq_false A)] at hm
   refine Cr<|Ts rfl (q1 rfl rfl)<|As rfl rfl<|Te ?_
   refine Cc _ rfl (fun B => ?_) (fun B => ?_)
   rw [if_pos (of_decide_eq_true B)] at hm
   refine Cr<|Ts rfl (sF rfl fld48_3)<|Ts rfl (sL 1 rfl one46 rfl rfl)<|Ts rfl (st_func _ _ rfl rfl) ?_
   obtain ⟨S, aH, hm⟩ := bS hm
   refine Tg _ rfl call51 rfl (cSlicesContainsFunc (mFareCondHolds N) ih _ _ c.Kids a.Day a.At a.Km a.Age a.Card a.Zones D d e g i f k S aH) ?_
   rintro _ aS _ aI ⟨rfl, rfl⟩
   refine Ts rfl (sn2 rfl)<|As rfl rfl<|Te<|Ct<|Xb<|Xr ?_
   obtain rfl := o1 hm
   exact rM (rs := [.tmp 4]) (vs := [.bool (!S)]) ⟨rfl, trivial⟩ ⟨rfl, rfl⟩ (.cons _ (.cons _ (.refl _))) aI
   rw [if_neg (of_decide_eq_false B)] at hm
   refine Cr<|Ts rfl (q1 rfl rfl)<|As rfl rfl<|Te ?_
   refine Cc _ rfl (fun C => ?_) (fun C => ?_)
   rw [if_pos (of_decide_eq_true C)] at hm
   refine Cr<|Ts rfl (sF rfl fld48_3)<|Ts rfl (sL 1 rfl one46 rfl rfl)<|Ts rfl (st_func _ _ rfl rfl) ?_
   obtain ⟨T, aJ, hm⟩ := bS hm
   refine Tg _ rfl call51 rfl (cSlicesContainsFunc_2 (mFareCondHolds N) ih _ _ c.Kids a.Day a.At a.Km a.Age a.Card a.Zones D d e g i f k T aJ) ?_
   rintro _ aT _ aK ⟨rfl, rfl⟩
   refine As rfl rfl<|Te<|Ct<|Xb<|Xr ?_
   obtain rfl := o1 hm
   exact rM (rs := [.tmp 4]) (vs := [bv T]) ⟨rfl, trivial⟩ ⟨rfl, rfl⟩ (.cons _ (.cons _ (.refl _))) aK
   rw [if_neg (of_decide_eq_false C)] at hm
   refine Ck<|Xm<|Xn<|Cr<|As rfl rfl<|Te<|Ct ?_
   obtain rfl := o1 hm
   exact rM (rs := [.tmp 4]) (vs := [bv true]) ⟨rfl, trivial⟩ ⟨rfl, rfl⟩ (.cons _ (.cons _ (.refl _))) lr

set_option maxRecDepth 20000 in
theorem cFareRuleChange (b : Base) (R : Hp) (a : FareRule) (c : Int) (m : OA) (n : Nat) (q : FZ rFareCond b.w m n a.If.Kids) (o : Int) (hm : mFareRuleChange a c = some o) :
    CallsG Tryz.prog 32 [.agg #[iv a.If.Kind, iv a.If.A, iv a.If.B, sv m a.If.Kids n, iv a.Do, iv a.N, bv a.Stop], iv c] b (R) (fun v b' hp' => iv o = v ∧ R = hp') := by
 refine fE 43 Tryz.func32 rfl Tryz.ntmps32 rfl ?_
 unfold mFareRuleChange at hm
 refine Cr<|Do rfl (uB _ rfl rfl) ?_
 rintro _ _ ⟨r, rfl, rfl⟩
 refine As rfl rfl<|Te<|Cs<|Cr<|Ts rfl (sF rfl fld50_1)<|Ts rfl (sL 0 rfl one3 rfl rfl)<|Te<|Cb<|Cr<|Ts rfl (q1 rfl rfl) ?_
 refine As rfl rfl<|Te ?_
 refine Cc _ rfl (fun d => ?_) (fun d => ?_)
 rw [if_pos (of_decide_eq_true d)] at hm
 refine Cr<|M rfl rfl<|Ts rfl (sF rfl fld50_2)<|Ts rfl (sL 0 rfl one3 rfl rfl) ?_
 obtain ⟨_, e, hm⟩ := bS hm
 have e := (kS e).2
 refine Ts rfl (st_mul rfl rfl e) ?_
 obtain ⟨_, p, hm⟩ := bS hm
 obtain ⟨_, f, hm⟩ := bS hm
 have f := (kS f).2
 refine Ts rfl (st_quo rfl rfl (ne0_some p) f)<|Ts rfl (st_min rfl rfl)<|As rfl rfl<|Te<|Ct<|Xb<|Xr ?_
 obtain rfl := o1 hm
 exact rM (rs := [.tmp 4]) (vs := [iv (min 100000 (Int.tdiv (c * a.N) 100))]) ⟨rfl, trivial⟩ ⟨rfl, rfl⟩ (.cons _ (.refl _)) lr
 rw [if_neg (of_decide_eq_false d)] at hm
 refine Cr<|Ts rfl (q1 rfl rfl)<|As rfl rfl<|Te ?_
 refine Cc _ rfl (fun g => ?_) (fun g => ?_)
 rw [if_pos (of_decide_eq_true g)] at hm
 refine Cr<|M rfl rfl<|Ts rfl (sF rfl fld50_2)<|Ts rfl (sL 0 rfl one3 rfl rfl) ?_
 obtain ⟨_, h, hm⟩ := bS hm
 have h := (kS h).2
 refine Ts rfl (sb rfl rfl h)<|Ts rfl (st_max rfl rfl)<|As rfl rfl<|Te<|Ct<|Xb<|Xr ?_
 obtain rfl := o1 hm
 exact rM (rs := [.tmp 4]) (vs := [iv (max 0 (c - a.N))]) ⟨rfl, trivial⟩ ⟨rfl, rfl⟩ (.cons _ (.refl _)) lr
 rw [if_neg (of_decide_eq_false g)] at hm
 refine Cr<|Ts rfl (q1 rfl rfl)<|As rfl rfl<|Te ?_
 refine Cc _ rfl (fun i => ?_) (fun i => ?_)
 rw [if_pos (of_decide_eq_true i)] at hm
 refine Cr<|M rfl rfl<|Ts rfl (sF rfl fld50_2)<|Ts rfl (sL 0 rfl one3 rfl rfl) ?_
 obtain ⟨_, j, hm⟩ := bS hm
 have j := (kS j).2
 refine Ts rfl (sa rfl rfl j)<|Ts rfl (st_min rfl rfl)<|As rfl rfl<|Te<|Ct<|Xb<|Xr ?_
 obtain rfl := o1 hm
 exact rM (rs := [.tmp 4]) (vs := [iv (min 100000 (c + a.N))]) ⟨rfl, trivial⟩ ⟨rfl, rfl⟩ (.cons _ (.refl _)) lr
 rw [if_neg (of_decide_eq_false i)] at hm
 refine Cr<|Ts rfl (q1 rfl rfl)<|As rfl rfl<|Te ?_
 refine Cc _ rfl (fun k => ?_) (fun k => ?_)
 rw [if_pos (of_decide_eq_true k)] at hm
 refine Cr<|Ts rfl (sF rfl fld50_2)<|Ts rfl (sL 0 rfl one3 rfl rfl)<|As rfl rfl<|Te<|Ct<|Xb<|Xr ?_
 obtain rfl := o1 hm
 exact rM (rs := [.tmp 4]) (vs := [iv a.N]) ⟨rfl, trivial⟩ ⟨rfl, rfl⟩ (.cons _ (.refl _)) lr
 rw [if_neg (of_decide_eq_false k)] at hm
 refine Cr<|Ts rfl (q1 rfl rfl)<|As rfl rfl<|Te ?_
 refine Cc _ rfl (fun l => ?_) (fun l => ?_)
 rw [if_pos (of_decide_eq_true l)] at hm
 refine Cr<|M rfl rfl<|Ts rfl (sF rfl fld50_2)<|Ts rfl (sL 0 rfl one3 rfl rfl)<|Ts rfl (st_min rfl rfl)<|As rfl rfl<|Te<|Ct<|Xb<|Xr ?_
 obtain rfl := o1 hm
 exact rM (rs := [.tmp 4]) (vs := [iv (min c a.N)]) ⟨rfl, trivial⟩ ⟨rfl, rfl⟩ (.cons _ (.refl _)) lr
 rw [if_neg (of_decide_eq_false l)] at hm
 refine Ck<|Xm<|Xn<|Cr<|M rfl rfl<|Ts rfl (sF rfl fld50_2)<|Ts rfl (sL 0 rfl one3 rfl rfl)<|Ts rfl (st_max rfl rfl)<|As rfl rfl<|Te ?_
 refine Ct ?_
 obtain rfl := o1 hm
 exact rM (rs := [.tmp 4]) (vs := [iv (max c a.N)]) ⟨rfl, trivial⟩ ⟨rfl, rfl⟩ (.cons _ (.refl _)) lr

set_option maxRecDepth 20000 in
theorem cFareTariffPrice (b : Base) (R : Hp) (a : FareTariff) (c : FareTrip) (f : OA) (g : Nat) (k : OA) (m : Nat) (o : OA) (p : Nat) (h4 : FZ rFareBand b.w f g a.Bands) (h7 : FZ rFareRule b.w k m a.Rules) (h11 : FZ rI b.w o p c.Zones) (x274 : Int) (F : (List Int)) (hm : mFareTariffPrice a c = some (x274, F)) :
    CallsG Tryz.prog 15 [.agg #[bv a.ByKm, sv f a.Bands g, iv a.Round, sv k a.Rules m], .agg #[iv c.Day, iv c.At, iv c.Km, iv c.Age, bv c.Card, sv o c.Zones p]] b (R) (fun v b' hp' => ∃ (A271 : OA), ∃ (c272 : Nat), ∃ (hs270 : Hp), .tuple #[iv x274, sv A271 F c272] = v ∧ (hs270 ++ R) = hp' ∧ OS 3 (OT.fr rI) b'.w (sv A271 F c272) F hs270) := by
 refine fE 70 Tryz.func15 rfl Tryz.ntmps15 rfl ?_
 unfold mFareTariffPrice at hm
 refine Cr<|Do rfl (uB _ rfl rfl) ?_
 rintro _ _ ⟨e, rfl, rfl⟩
 refine Do rfl (uB _ rfl rfl) ?_
 rintro _ _ ⟨q, rfl, rfl⟩
 refine As rfl rfl<|As rfl rfl<|Te<|Cr<|Ts rfl (sF rfl fld38_5)<|Ts rfl (sL 0 rfl one27 rfl rfl)<|Ts rfl (sE rfl sl27)<|Do rfl (uA [iv 0] zero3 rfl) ?_
 rintro _ _ ⟨S, rfl, rfl⟩
 refine Do rfl (uS 0 rfl rfl siz3 rfl rfl (by simp)) ?_
 rintro _ _ rfl
 refine Te ?_
 obtain ⟨x282, hj283, hk283⟩ := bS hm
 refine Cj (fun b280 e' hp' => [(2, pb e), (3, pb q), (6, pb S)] = e' ∧ (e, Cl 25 [bv a.ByKm, sv f a.Bands g, iv a.Round, sv k a.Rules m]) :: (q, Cl 38 [iv c.Day, iv c.At, iv c.Km, iv c.Age, bv c.Card, sv o c.Zones p]) :: (S, Cl 3 [iv x282]) :: R = hp' ∧ b.Le b280) ?_ ?_
 have hm := hj283
 refine Cr<|Ts rfl (sF rfl fld25_0)<|Ts rfl (sL 2 rfl one4 rfl rfl)<|Te ?_
 refine Cc _ rfl (fun T => ?_) (fun T => ?_)
 rw [if_pos T] at hm
 refine Cg<|Ts rfl (sF rfl fld38_2)<|Ts rfl (sL 1 rfl one3 rfl rfl)<|Do rfl (uS 0 rfl rfl siz3 rfl rfl (by simp)) ?_
 rintro _ _ rfl
 refine Tn ?_
 obtain rfl := o1 hm
 refine Xp 1 rfl<|Xp 2 rfl ?_
 exact xJ ⟨rfl, rfl, lr⟩ (.refl _)
 rw [if_neg (fun hh => Bool.noConfusion (hh.symm.trans T))] at hm
 refine Ck ?_
 obtain rfl := o1 hm
 refine Xp 1 rfl<|Xp 2 rfl ?_
 exact xJ ⟨rfl, rfl, lr⟩ (.refl _)
 rintro b280 _ _ ⟨rfl, rfl, s⟩
 have hm := hk283
 refine Cr<|Ts rfl (sF rfl fld25_1)<|Ts rfl (sL 0 rfl one22 rfl rfl)<|Ts rfl (st_func _ _ rfl rfl) ?_
 obtain ⟨x285, hcl286, hm⟩ := bS hm
 refine t_pullb 2 rfl<|Tg _ rfl call29 rfl (cSlicesIndexFunc _ _ a.Bands x282 S f g (h4.le s) x285 hcl286) ?_
 rintro _ b287 _ B ⟨rfl, rfl⟩
 refine As rfl rfl<|Te ?_
 obtain ⟨x293, hj294, hk294⟩ := bS hm
 refine Cj (fun G e' hp' => [(2, pb e), (3, pb q), (7, iv x293)] = e' ∧ (e, Cl 25 [bv a.ByKm, sv f a.Bands g, iv a.Round, sv k a.Rules m]) :: (q, Cl 38 [iv c.Day, iv c.At, iv c.Km, iv c.Age, bv c.Card, sv o c.Zones p]) :: R = hp' ∧ b287.Le G) ?_ ?_
 have hm := hj294
 refine Cr<|M rfl rfl<|Ts rfl (q3 rfl rfl)<|Te ?_
 refine Cc _ rfl (fun U => ?_) (fun U => ?_)
 rw [if_pos (of_decide_eq_true U)] at hm
 refine Cg<|Ts rfl (sF rfl fld25_1)<|Ts rfl (sL 1 rfl one22 rfl rfl)<|Ts rfl (sE rfl sl22) ?_
 obtain ⟨_, V, hm⟩ := bS hm
 have V := (kS V).2
 refine Ts rfl (sb rfl rfl V)<|As rfl rfl<|Tn ?_
 obtain rfl := o1 hm
 refine Xp 2 rfl<|Xp 2 rfl ?_
 exact xJ ⟨rfl, rfl, lr⟩ (.cons_cons _ (.cons_cons _ (.cons _ (.refl _))))
 rw [if_neg (of_decide_eq_false U)] at hm
 refine Ck ?_
 obtain rfl := o1 hm
 refine Xp 2 rfl<|Xp 2 rfl ?_
 exact xJ ⟨rfl, rfl, lr⟩ (.cons_cons _ (.cons_cons _ (.cons _ (.refl _))))
 rintro G _ _ ⟨rfl, rfl, C⟩
 have hm := hk294
 refine Cr<|Ts rfl (sF rfl fld25_1)<|Ts rfl (sL 0 rfl one22 rfl rfl)<|M rfl rfl ?_
 obtain ⟨x297, h298, hm⟩ := bS hm
 obtain ⟨j299, hj300, hx301⟩ := iS h298
 obtain ⟨cs302, hr303, hcs304, hA305, hlt306⟩ := FZ.get (sz := 2) rfl (by decide) (h4.le (s.trans (B.trans C))) hx301
 obtain ⟨_, _, rfl, rfl, rfl⟩ := hr303
 refine Ts rfl (sI j299 rfl rfl hj300 hlt306 hA305 sl22)<|Ts rfl (sQ rfl hA305 fld45_1)<|Ts rfl (sO rfl one3 (hcs304 1 _ rfl))<|As rfl rfl<|Te<|Cr<|As rfl rfl<|Te ?_
 obtain ⟨⟨x417, H⟩, hj419, hk419⟩ := bS hm
 refine Cj (fun W e' hp' => ∃ (D : OA), ∃ (E : Nat), ∃ (I : Hp), [(2, pb e), (8, iv x417), (9, sv D H E)] = e' ∧ (e, Cl 25 [bv a.ByKm, sv f a.Bands g, iv a.Round, sv k a.Rules m]) :: (I ++ R) = hp' ∧ G.Le W ∧ OS 3 (OT.fr rI) W.w (sv D H E) H I) ?_ ?_
 have hm := hj419
 refine Cr<|Ts rfl (sF rfl fld25_3)<|Ts rfl (sL 0 rfl one23 rfl rfl)<|Ts rfl (sE rfl sl23)<|M rfl rfl<|Te<|Cb ?_
 have hb421 : a.Rules.length ≤ 9223372036854775807 := (FZ.bd (h7.le (s.trans (B.trans C))))
 refine Cp 1 rfl<|Cp 1 rfl ?_
 obtain ⟨t492, hl493, J⟩ := bS hm
 refine cF (fun t => unc2 fun K x => fun L e' hp' => ∃ (y : OA), ∃ (z : Nat), ∃ (A : Hp), [(2, pb e), (3, pb q), (8, iv K), (9, sv y x z), (36, sv k a.Rules m), (37, iv ((a.Rules.length : Int))), (38, iv ((t : Int)))] = e' ∧ (e, Cl 25 [bv a.ByKm, sv f a.Bands g, iv a.Round, sv k a.Rules m]) :: (q, Cl 38 [iv c.Day, iv c.At, iv c.Km, iv c.Age, bv c.Card, sv o c.Zones p]) :: (A ++ R) = hp' ∧ G.Le L ∧ OS 3 (OT.fr rI) L.w (sv y x z) x A) hl493 ⟨none, 0, [], rfl, rfl, lr, OS.nil⟩ (.refl _) ?_ ?_
 rintro t ⟨K, x⟩ L _ _ oL420 hknL420 ⟨y, z, A, rfl, rfl, n, O⟩ hstepL420 houtL420
 unfold mFareTariffPrice_L420 at hstepL420
 have hm := (unc2E hstepL420)
 refine Cr<|Ts rfl (lT rfl rfl (by omega))<|Te<|Cs<|c_cond_t rfl<|Ck<|Xn<|Cs<|Cb<|Cr ?_
 refine M rfl rfl ?_
 obtain ⟨d, h496, hm⟩ := bS hm
 obtain ⟨j497, hj498, hx499⟩ := iS h496
 obtain ⟨cs500, hr501, hcs502, hA503, hlt504⟩ := FZ.get (sz := 7) rfl (by decide) (h7.le (s.trans (B.trans (C.trans n)))) hx499
 obtain ⟨_, _, rfl, ⟨_, _, rfl, rfl, ⟨_, _, rfl, rfl, ⟨_, _, rfl, rfl, ⟨X, Y, rfl, h507⟩⟩⟩⟩, ⟨_, _, rfl, rfl, ⟨_, _, rfl, rfl, rfl⟩⟩⟩ := hr501
 refine Ts rfl (sI j497 rfl rfl hj498 hlt504 hA503 sl23)<|Ts rfl (sP (vs := [iv d.If.Kind, iv d.If.A, iv d.If.B, sv X d.If.Kids Y, iv d.Do, iv d.N, bv d.Stop]) 7 rfl agg50 hA503 rfl (fun j u hu => hcs502 j u hu))<|Do rfl (uA [iv 0, iv 0, iv 0, sn, iv 0, iv 0, .bool false] zero50 rfl) ?_
 rintro _ _ ⟨g508, rfl, rfl⟩
 refine As rfl rfl<|Do rfl (uN (vs := [_, _, _, _, _, _, _]) 0 7 rfl rfl rfl siz50 rfl (mc rfl (mc rfl (mc rfl (mc rfl (mc rfl (mc rfl (mc rfl mn))))))) rfl (by simp)) ?_
 rintro _ _ rfl
 refine Te<|Cs<|Cr<|Ts rfl (sF rfl fld50_0)<|Ts rfl (sD (vs := [_, _, _, _]) 0 4 rfl agg48 rfl rfl rfl)<|Ts rfl (sD (vs := [_, _, _, _, _, _]) 2 6 rfl agg38 rfl rfl rfl) ?_
 obtain ⟨x509, Z, hm⟩ := bS hm
 obtain ⟨Nhcl510, Z⟩ := lim_some Z
 refine Do rfl (uW _ call31 rfl (fun w ho => cFareCondHolds Nhcl510 _ [] d.If c X Y o p ((rFareCond_in h507).old ho) ((h11.le (s.trans (B.trans (C.trans n)))).old ho) x509 Z) (fun _ _ _ h => h.2.symm)) ?_
 rintro _ _ ⟨⟨_, rfl, _⟩, rfl⟩
 refine Ts rfl (sn2 rfl)<|Te ?_
 refine Cc _ rfl (fun aa => ?_) (fun aa => ?_)
 rw [if_neg (fun hh => Bool.noConfusion (hh.symm.trans (nt aa)))] at hm
 refine Ce<|Xe<|Xo<|Xn<|Cg<|Ts rfl (sa rfl rfl (by omega))<|M rfl rfl<|Tn<|Xp 2 rfl<|Xp 2 rfl ?_
 exact xM hm ⟨y, z, A, rfl, rfl, (n), O⟩ (.cons_cons _ (.cons_cons _ (.cons _ (.refl _))))
 rw [if_pos (nf aa)] at hm
 refine Ck<|Xn<|Cr<|M rfl rfl<|M rfl rfl<|Do rfl (u_bslice (el := 3) [(0, iv ((t : Int)))] [iv ((t : Int))] rfl (fun _ => by kernel_rfl)) ?_
 rintro _ _ ⟨g512, rfl, rfl⟩
 obtain ⟨_, ab, hm⟩ := bS hm
 have ab := room_some ab
 refine Do rfl (uQ (r := rI) (l := x) [_, _, _, _] R [[iv ((t : Int))]] [(t : Int)] rfl (by decide) sl27 inf3 rfl rfl rfl rfl O rfl (fun w ho => Rd.own (i := 0) ho rfl) ⟨rfl, trivial⟩ ab) ?_
 rintro _ _ ⟨hs514, rfl, ac⟩
 obtain ⟨A516, c517, rfl, _⟩ := ac.form
 refine As rfl rfl<|Te<|Cr<|Ts rfl (sD (vs := [_, _, _, _, _, _, _]) 1 7 rfl agg50 rfl rfl rfl)<|M rfl rfl ?_
 obtain ⟨x518, hcl519, hm⟩ := bS hm
 refine Do rfl (uW _ call32 rfl (fun w ho => cFareRuleChange _ [] d K X Y ((rFareCond_in h507).old ho) x518 hcl519) (fun _ _ _ h => h.2.symm)) ?_
 rintro _ _ ⟨⟨_, rfl, _⟩, rfl⟩
 refine As rfl rfl<|Te<|Cr<|Ts rfl (sF rfl fld50_3)<|Ts rfl (sL 1 rfl one4 rfl rfl)<|Te ?_
 refine Cc _ rfl (fun ad => ?_) (fun ad => ?_)
 rw [if_pos ad] at hm
 refine Ce<|Xi rfl<|Xe<|Xe<|Xo ?_
 have hq521 := houtL420 _ (Option.some.inj hm).symm
 rw [hq521] at J
 have hm := elimR J
 obtain ⟨rfl, rfl⟩ := some2 hm
 refine Xp 2 rfl ?_
 exact xJ ⟨A516, c517, hs514, rfl, rfl, n, ac⟩ (.cons_cons _ (.cons _ (.cons _ (.cons _ (.refl _)))))
 rw [if_neg (fun hh => Bool.noConfusion (hh.symm.trans ad))] at hm
 refine Ck<|Xm<|Xn<|Cg<|Ts rfl (sa rfl rfl (by omega))<|M rfl rfl<|Tn<|Xp 3 rfl<|Xp 3 rfl ?_
 exact xM hm ⟨A516, c517, hs514, rfl, rfl, (n), ac⟩ (.cons_cons _ (.cons_cons _ (.cons _ (.cons _ (.refl _)))))
 rintro ⟨K, x⟩ L _ _ ⟨y, z, A, rfl, rfl, n, O⟩ hq522
 rw [hq522] at J
 have hm := elimL J
 have hm := (unc2E hm)
 refine Cr<|Ts rfl (lF rfl rfl (by omega))<|Te<|Cs<|c_cond_f rfl<|Ce<|Xe<|Xe<|Xo ?_
 obtain ⟨rfl, rfl⟩ := some2 hm
 exact xJ ⟨y, z, A, rfl, rfl, n, O⟩ (.cons_cons _ (.cons _ (.refl _)))
 rintro W _ _ ⟨D, E, I, rfl, rfl, hle411, h416⟩
 have hm := (unc2E hk419)
 refine Cs ?_
 obtain ⟨_, ae, hm⟩ := bS hm
 obtain ⟨_, af, hm⟩ := bS hm
 obtain ⟨_, h530, hm⟩ := bS hm
 obtain ⟨_, ag, hm⟩ := bS hm
 obtain ⟨_, ah, hm⟩ := bS hm
 refine Di mixed (.refl _)<|E0 0 rfl (sM rfl)<|E0 1 rfl (sF rfl fld25_2)<|Es 2 rfl (sL 0 rfl one3 rfl rfl) ?_
 have ae := (kS ae).2
 refine E0 3 rfl (sa rfl rfl ae) ?_
 have af := (kS af).2
 refine E0 4 rfl (sb rfl rfl af)<|E0 5 rfl (sF rfl fld25_2)<|Es 6 rfl (sL 0 rfl one3 rfl rfl) ?_
 have ag := (kS ag).2
 refine E0 7 rfl (st_quo rfl rfl (ne0_some h530) ag)<|E0 8 rfl (sF rfl fld25_2)<|Es 9 rfl (sL 0 rfl one3 rfl rfl) ?_
 have ah := (kS ah).2
 refine E0 10 rfl (st_mul rfl rfl ah)<|E0 11 rfl (sM rfl)<|E0 12 rfl (sA rfl)<|E0 13 rfl (sA rfl)<|Eo<|Dd (by kernel_rfl)<|Xn<|Ct ?_
 obtain ⟨rfl, rfl⟩ := some2 hm
 exact rM (rs := [.tmp 4, .tmp 5]) (vs := [iv ((Int.tdiv ((x417 + a.Round) - 1) a.Round) * a.Round), sv D H E]) ⟨rfl, ⟨rfl, trivial⟩⟩ ⟨D, E, I, rfl, rfl, h416⟩ (.cons _ (.refl _)) (s.trans (B.trans (C.trans hle411)))

set_option maxRecDepth 20000 in
theorem cFarePrice (b : Base) (R : Hp) (c : FareTariff) (a : FareTrip) (d : OA) (e : Nat) (f : OA) (g : Nat) (i : OA) (j : Nat) (n : FZ rFareBand b.w d e c.Bands) (o : FZ rFareRule b.w f g c.Rules) (p : FZ rI b.w i j a.Zones) (q : Int) (r : Int) (k : (List Int)) (hm : mFarePrice c a = some (q, r, k)) :
    CallsG Tryz.prog 8 [.agg #[bv c.ByKm, sv d c.Bands e, iv c.Round, sv f c.Rules g], .agg #[iv a.Day, iv a.At, iv a.Km, iv a.Age, bv a.Card, sv i a.Zones j]] b (R) (fun v b' hp' => ∃ (s : OA), ∃ (t : Nat), ∃ (u : Hp), .tuple #[iv q, sv s k t, iv r] = v ∧ (u ++ R) = hp' ∧ OS 3 (OT.fr rI) b'.w (sv s k t) k u) := by
 refine fE 29 Tryz.func8 rfl Tryz.ntmps8 rfl ?_
 unfold mFarePrice at hm
 refine Cr<|Do rfl (uB _ rfl rfl) ?_
 rintro _ _ ⟨J, rfl, rfl⟩
 refine Do rfl (uB _ rfl rfl) ?_
 rintro _ _ ⟨K, rfl, rfl⟩
 refine As rfl rfl<|As rfl rfl<|As rfl rfl<|Te<|Cs<|Cr<|Ts rfl (sD (vs := [_, _, _, _]) 1 4 rfl agg25 rfl rfl rfl) ?_
 obtain ⟨x, E, hm⟩ := bS hm
 refine Do rfl (uW _ call13 rfl (fun w ho => cFareCheckTariff _ [] c d e f g (n.old ho) (o.old ho) x E) (fun _ _ _ h => h.2.symm)) ?_
 rintro _ _ ⟨⟨_, rfl, _⟩, rfl⟩
 refine As rfl rfl<|Te<|Cr<|M rfl rfl<|Ts rfl (q2 rfl rfl)<|Te ?_
 refine Cc _ rfl (fun l => ?_) (fun l => ?_)
 rw [if_pos (of_decide_eq_true l)] at hm
 refine Cr<|M rfl rfl<|As rfl rfl<|As rfl rfl<|As rfl rfl<|Te<|Ct<|Xr ?_
 obtain ⟨rfl, rfl, rfl⟩ := some3 hm
 exact rM (rs := [.tmp 4, .tmp 5, .tmp 6]) (vs := [iv 0, sn, iv x]) ⟨rfl, ⟨rfl, ⟨rfl, trivial⟩⟩⟩ ⟨none, 0, [], rfl, rfl, OS.nil⟩ (.cons _ (.cons _ (.refl _))) lr
 rw [if_neg (of_decide_eq_false l)] at hm
 refine Ck<|Xn<|Cs<|Cr<|Ts rfl (sD (vs := [_, _, _, _, _, _]) 0 6 rfl agg38 rfl rfl rfl) ?_
 obtain ⟨y, F, hm⟩ := bS hm
 refine Do rfl (uW _ call14 rfl (fun w ho => cFareCheckTrip _ [] a i j (p.old ho) y F) (fun _ _ _ h => h.2.symm)) ?_
 rintro _ _ ⟨⟨_, rfl, _⟩, rfl⟩
 refine As rfl rfl<|Te<|Cr<|M rfl rfl<|Ts rfl (q2 rfl rfl)<|Te ?_
 refine Cc _ rfl (fun m => ?_) (fun m => ?_)
 rw [if_pos (of_decide_eq_true m)] at hm
 refine Cr<|M rfl rfl<|As rfl rfl<|As rfl rfl<|As rfl rfl<|Te<|Ct<|Xr ?_
 obtain ⟨rfl, rfl, rfl⟩ := some3 hm
 exact rM (rs := [.tmp 4, .tmp 5, .tmp 6]) (vs := [iv 0, sn, iv y]) ⟨rfl, ⟨rfl, ⟨rfl, trivial⟩⟩⟩ ⟨none, 0, [], rfl, rfl, OS.nil⟩ (.cons _ (.cons _ (.refl _))) lr
 rw [if_neg (of_decide_eq_false m)] at hm
 refine Ck<|Xn<|Cr<|Ts rfl (sD (vs := [_, _, _, _]) 1 4 rfl agg25 rfl rfl rfl)<|Ts rfl (sD (vs := [_, _, _, _, _, _]) 0 6 rfl agg38 rfl rfl rfl) ?_
 obtain ⟨⟨z, A⟩, G, hm⟩ := bS hm
 have hm := (unc2E hm)
 refine Tg _ rfl call15 rfl (cFareTariffPrice _ _ c a d e f g i j n o p z A G) ?_
 rintro _ L _ H ⟨B, C, D, rfl, rfl, I⟩
 refine t_in1 [] [_, _] D R rfl<|M rfl rfl<|Ts rfl (st_extract rfl rfl)<|Ts rfl (st_extract rfl rfl)<|As rfl rfl<|As rfl rfl<|Te<|Cr<|M rfl rfl<|M rfl rfl ?_
 refine As rfl rfl<|As rfl rfl<|As rfl rfl<|Te<|Ct ?_
 obtain ⟨rfl, rfl, rfl⟩ := some3 hm
 exact rM (rs := [.tmp 4, .tmp 5, .tmp 6]) (vs := [iv z, sv B A C, iv 0]) ⟨rfl, ⟨rfl, ⟨rfl, trivial⟩⟩⟩ ⟨B, C, D, rfl, rfl, I⟩ (.cons _ (.cons _ (.refl _))) H

set_option maxRecDepth 20000 in
theorem cFishkeep2Fares (b : Base) (R : Hp) (f : Bool) (hm : mFishkeep2Fares = some f) :
    CallsG Tryz.prog 5 [] b (R) (fun v b' hp' => bv f = v ∧ R = hp') := by
 refine fE 25 Tryz.func5 rfl Tryz.ntmps5 rfl ?_
 unfold mFishkeep2Fares at hm
 refine Cr<|As rfl rfl<|Te<|Cr<|Ts rfl (sB (v := .agg #[iv 3, iv 500]) [(0, iv 3), (1, iv 500)] rfl (fun _ => by kernel_rfl))<|Do rfl (u_bslice (el := 45) [(0, .agg #[iv 3, iv 500])] [iv 3, iv 500] rfl (fun _ => by kernel_rfl)) ?_
 rintro _ _ ⟨a, rfl, rfl⟩
 refine Ts rfl (sB (v := .agg #[iv 1, iv 0, iv 0, sn]) [(0, iv 1)] rfl (fun _ => by kernel_rfl))<|Ts rfl (sB (v := .agg #[iv 1, iv 0, iv 0, sn, iv 2, iv 7, bv false]) [(0, .agg #[iv 1, iv 0, iv 0, sn]), (1, iv 2), (2, iv 7)] rfl (fun _ => by kernel_rfl))<|Do rfl (u_bslice (el := 50) [(0, .agg #[iv 1, iv 0, iv 0, sn, iv 2, iv 7, bv false])] [iv 1, iv 0, iv 0, sn, iv 2, iv 7, bv false] rfl (fun _ => by kernel_rfl)) ?_
 rintro _ _ ⟨c, rfl, rfl⟩
 refine Ts rfl (sB (v := .agg #[bv false, .slice (some ⟨a, 0, none⟩) 1 1, iv 1, .slice (some ⟨c, 0, none⟩) 1 1]) [(1, .slice (some ⟨a, 0, none⟩) 1 1), (2, iv 1), (3, .slice (some ⟨c, 0, none⟩) 1 1)] rfl (fun _ => by kernel_rfl))<|Do rfl (uA [.bool false, sn, iv 0, sn] zero25 rfl) ?_
 rintro _ _ ⟨A, rfl, rfl⟩
 refine t_seg 2 [_, _] R rfl rfl ?_
 have k : OS 45 (OT.fr rFareBand) b.w (.slice (some ⟨a, 0, none⟩) 1 1) [(⟨3, 500⟩ : FareBand)] [(a, Cl 45 [iv 3, iv 500])] := OS.lit [[iv 3, iv 500]] rfl ⟨⟨[iv 3], _, rfl, rfl, rfl⟩, trivial⟩ rfl (by decide)
 refine t_seg 1 [_] ([(a, Cl 45 [iv 3, iv 500])] ++ R) rfl rfl ?_
 have m : OS 50 (OT.fr rFareRule) b.w (.slice (some ⟨c, 0, none⟩) 1 1) [(⟨(⟨1, 0, 0, []⟩ : FareCond), 2, 7, false⟩ : FareRule)] [(c, Cl 50 [iv 1, iv 0, iv 0, sn, iv 2, iv 7, bv false])] := OS.lit [[iv 1, iv 0, iv 0, sn, iv 2, iv 7, bv false]] rfl ⟨⟨[iv 1, iv 0, iv 0, sn], _, rfl, ⟨[iv 1], _, rfl, rfl, ⟨[iv 0], _, rfl, rfl, ⟨[iv 0], _, rfl, rfl, (RT.list_mk FZ.nil)⟩⟩⟩, ⟨[iv 2], _, rfl, rfl, ⟨[iv 7], _, rfl, rfl, rfl⟩⟩⟩, trivial⟩ rfl (by decide)
 refine Do rfl (uN (vs := [_, _, _, _]) 0 4 rfl rfl rfl siz25 rfl (mc rfl (mc rfl (mc rfl (mc rfl mn)))) rfl (by simp)) ?_
 rintro _ _ rfl
 refine Te<|Cr<|Ts rfl (sD (vs := [_, _, _, _]) 0 4 rfl agg25 rfl rfl rfl)<|Do rfl (u_bslice (el := 3) [(0, iv 1)] [iv 1] rfl (fun _ => by kernel_rfl)) ?_
 rintro _ _ ⟨d, rfl, rfl⟩
 refine Ts rfl (sB (v := .agg #[iv 0, iv 0, iv 0, iv 0, bv true, .slice (some ⟨d, 0, none⟩) 1 1]) [(4, bv true), (5, .slice (some ⟨d, 0, none⟩) 1 1)] rfl (fun _ => by kernel_rfl))<|t_seg 0 [_] ([(c, Cl 50 [iv 1, iv 0, iv 0, sn, iv 2, iv 7, bv false])] ++ ([(a, Cl 45 [iv 3, iv 500])] ++ R)) rfl rfl ?_
 have n : OS 3 (OT.fr rI) b.w (.slice (some ⟨d, 0, none⟩) 1 1) [1] [(d, Cl 3 [iv 1])] := OS.lit [[iv 1]] rfl ⟨rfl, trivial⟩ rfl (by decide)
 obtain ⟨⟨p, q, r⟩, s, hm⟩ := bS hm
 have hm := (unc3E hm)
 refine Do rfl (u_callWF [_] ([(d, Cl 3 [iv 1])] ++ ([(c, Cl 50 [iv 1, iv 0, iv 0, sn, iv 2, iv 7, bv false])] ++ ([(a, Cl 45 [iv 3, iv 500])] ++ R))) _ rfl call8 rfl (fun w ho => cFarePrice _ [] (⟨false, [(⟨3, 500⟩ : FareBand)], 1, [(⟨(⟨1, 0, 0, []⟩ : FareCond), 2, 7, false⟩ : FareRule)]⟩ : FareTariff) (⟨0, 0, 0, 0, true, [1]⟩ : FareTrip) (some ⟨a, 0, none⟩) 1 (some ⟨c, 0, none⟩) 1 (some ⟨d, 0, none⟩) 1 (OS.now (o := (OT.fr rFareBand)) (l := [(⟨3, 500⟩ : FareBand)]) (hs := [(a, Cl 45 [iv 3, iv 500])]) k ho (.cons _ (ss [(d, Cl 3 [iv 1])] (ss [(c, Cl 50 [iv 1, iv 0, iv 0, sn, iv 2, iv 7, bv false])] (List.sublist_append_left _ _))))) (OS.now (o := (OT.fr rFareRule)) (l := [(⟨(⟨1, 0, 0, []⟩ : FareCond), 2, 7, false⟩ : FareRule)]) (hs := [(c, Cl 50 [iv 1, iv 0, iv 0, sn, iv 2, iv 7, bv false])]) m ho (.cons _ (ss [(d, Cl 3 [iv 1])] (List.sublist_append_left _ _)))) (OS.now (o := (OT.fr rI)) (l := [1]) (hs := [(d, Cl 3 [iv 1])]) n ho (.cons _ (List.sublist_append_left _ _))) p q r s)) ?_
 rintro _ _ ⟨_, _, rfl, B, C, g, rfl, t, u⟩
 obtain rfl := List.append_cancel_right t
 have D := flat_fz (w' := b.w) (fun _ _ _ _ h => h) u
 refine M rfl rfl<|Ts rfl (st_extract rfl rfl)<|Ts rfl (st_extract rfl rfl)<|Ts rfl (st_extract rfl rfl)<|As rfl rfl<|As rfl rfl<|As rfl rfl<|Te ?_
 obtain ⟨i, x, y⟩ := bS hm
 refine Cj (fun j e' hp' => [(0, bv i)] = e' ∧ R = hp' ∧ b.Le j) ?_ ?_
 have hm := x
 refine Cg<|M rfl rfl ?_
 refine Tb rfl (q1 rfl rfl) (fun e => ?_) (fun e => ?_)
 rw [if_pos e] at hm
 refine M rfl rfl<|Ys 21 rfl rfl rfl<|M rfl rfl<|Ys 21 rfl rfl rfl<|Ts rfl (q1 rfl rfl)<|Ts rfl (pT rfl rfl)<|As rfl rfl<|Tn ?_
 obtain rfl := o1 hm
 exact xJ ⟨rfl, rfl, lr⟩ (.cons _ (ss g (ss [(d, Cl 3 [iv 1])] (ss [(c, Cl 50 [iv 1, iv 0, iv 0, sn, iv 2, iv 7, bv false])] (ss [(a, Cl 45 [iv 3, iv 500])] (.refl _))))))
 rw [if_neg e] at hm
 refine M rfl rfl<|No 21 rfl rfl rfl rfl rfl<|No 21 rfl rfl rfl rfl rfl<|Ts rfl (pF rfl rfl)<|As rfl rfl<|Tn ?_
 obtain rfl := o1 hm
 exact xJ ⟨rfl, rfl, lr⟩ (.cons _ (ss g (ss [(d, Cl 3 [iv 1])] (ss [(c, Cl 50 [iv 1, iv 0, iv 0, sn, iv 2, iv 7, bv false])] (ss [(a, Cl 45 [iv 3, iv 500])] (.refl _))))))
 rintro j _ _ ⟨rfl, rfl, z⟩
 have hm := y
 refine Ct ?_
 obtain rfl := o1 hm
 exact rM (rs := [.tmp 0]) (vs := [bv i]) ⟨rfl, trivial⟩ ⟨rfl, rfl⟩ (.refl _) z

set_option maxRecDepth 20000 in
theorem cFishref2Within (b : Base) (R : Hp) (c : Int) (d : Int) (e : Int) (f : Bool) (hm : mFishref2Within c d e = some f) :
    CallsG Tryz.prog 12 [iv c, iv d, iv e] b (R) (fun v b' hp' => bv f = v ∧ R = hp') := by
 refine fE 15 Tryz.func12 rfl Tryz.ntmps12 rfl ?_
 unfold mFishref2Within at hm
 refine Cr<|As rfl rfl<|Te ?_
 obtain ⟨g, i, j⟩ := bS hm
 refine Cj (fun h e' hp' => [(6, bv g)] = e' ∧ R = hp' ∧ b.Le h) ?_ ?_
 have hm := i
 refine Cg<|M rfl rfl<|M rfl rfl ?_
 refine Tb rfl (q6 rfl rfl) (fun a => ?_) (fun a => ?_)
 rw [if_pos a] at hm
 refine M rfl rfl<|Ys 10 rfl rfl rfl<|M rfl rfl<|Ys 10 rfl rfl rfl<|M rfl rfl<|Ys 10 rfl rfl rfl<|Ts rfl (q4 rfl rfl)<|Ts rfl (pT rfl rfl)<|As rfl rfl<|Tn ?_
 obtain rfl := o1 hm
 exact xJ ⟨rfl, rfl, lr⟩ (.refl _)
 rw [if_neg a] at hm
 refine M rfl rfl<|No 10 rfl rfl rfl rfl rfl<|No 10 rfl rfl rfl rfl rfl<|No 10 rfl rfl rfl rfl rfl<|Ts rfl (pF rfl rfl)<|As rfl rfl<|Tn ?_
 obtain rfl := o1 hm
 exact xJ ⟨rfl, rfl, lr⟩ (.refl _)
 rintro h _ _ ⟨rfl, rfl, k⟩
 have hm := j
 refine Ct ?_
 obtain rfl := o1 hm
 exact rM (rs := [.tmp 6]) (vs := [bv g]) ⟨rfl, trivial⟩ ⟨rfl, rfl⟩ (.refl _) k

set_option maxRecDepth 20000 in
theorem cFishref2Shape : ∀ (N : Nat) (b : Base) (R : Hp) (a : FareCond) (h : Int) (c : Nat) (d : OA) (e : Nat) (i : FZ rFareCond b.w d e a.Kids) (k : Int) (l : Int) (hm : mFishref2Shape N a h = some (k, l)),
    CallsG Tryz.prog 46 [.agg #[iv a.Kind, iv a.A, iv a.B, sv d a.Kids e], pb c] b ((c, Cl 3 [iv h]) :: R) (fun v b' hp' => iv k = v ∧ (c, Cl 3 [iv l]) :: R = hp') := by
  intro N
  induction N with
  | zero =>
    intro b R a h c d e i k l hm
    unfold mFishref2Shape at hm
    cases hm
  | succ N ih =>
   intro b R a h c d e i k l hm
   refine fE 35 Tryz.func46 rfl Tryz.ntmps46 rfl ?_
   unfold mFishref2Shape at hm
   refine Cr<|Do rfl (uB _ rfl rfl) ?_
   rintro _ _ ⟨ac, rfl, rfl⟩
   refine As rfl rfl<|Te<|Cr<|M rfl rfl<|Ts rfl (sN rfl)<|Ts rfl (sL 1 rfl one3 rfl rfl) ?_
   obtain ⟨_, o, hm⟩ := bS hm
   have o := (kS o).2
   refine Ts rfl (sb rfl rfl o)<|Ts rfl (sN rfl)<|Do rfl (uS 1 rfl rfl siz3 rfl rfl (by simp)) ?_
   rintro _ _ rfl
   refine Te<|Cs<|Cr<|M rfl rfl<|Ts rfl (sN rfl)<|Ts rfl (sL 1 rfl one3 rfl rfl)<|Ts rfl (q3 rfl rfl)<|Te ?_
   refine Cc _ rfl (fun p => ?_) (fun p => ?_)
   rw [if_pos (of_decide_eq_true p)] at hm
   refine Cr<|As rfl rfl<|Te<|Ct<|Xr ?_
   obtain ⟨rfl, rfl⟩ := some2 hm
   refine Xp 1 rfl ?_
   exact rM (rs := [.tmp 4]) (vs := [iv 1]) ⟨rfl, trivial⟩ ⟨rfl, rfl⟩ (.cons_cons _ (.cons _ (.refl _))) lr
   rw [if_neg (of_decide_eq_false p)] at hm
   refine Ck<|Xn ?_
   obtain ⟨⟨w, E⟩, F, G⟩ := bS hm
   refine Cj (fun x e' hp' => [(4, iv w)] = e' ∧ (c, Cl 3 [iv E]) :: R = hp' ∧ b.Le x) ?_ ?_
   have hm := F
   refine Cr<|Ts rfl (sF rfl fld48_3)<|Ts rfl (sL 0 rfl one46 rfl rfl)<|Ts rfl (sE rfl sl46)<|M rfl rfl<|Te<|Cb ?_
   have ad : a.Kids.length ≤ 9223372036854775807 := (FZ.bd i)
   refine Cp 1 rfl ?_
   obtain ⟨ae, H, m⟩ := bS hm
   refine cF (fun y => unc2 fun q n => fun r e' hp' => [(1, pb c), (4, iv q), (17, sv d a.Kids e), (18, iv ((a.Kids.length : Int))), (19, iv ((y : Int)))] = e' ∧ (c, Cl 3 [iv n]) :: R = hp' ∧ b.Le r) H ⟨rfl, rfl, lr⟩ (.cons_cons _ (.cons _ (.refl _))) ?_ ?_
   rintro y ⟨q, n⟩ r _ _ af ag ⟨rfl, rfl, f⟩ z I
   unfold mFishref2Shape_L331 at z
   have hm := (unc2E z)
   refine Cr<|Ts rfl (lT rfl rfl (by omega))<|Te<|Cs<|c_cond_t rfl<|Ck<|Xn<|Cs<|Cb<|Cr ?_
   obtain ⟨g, J, hm⟩ := bS hm
   obtain ⟨K, L, O⟩ := iS J
   obtain ⟨ah, S, T, A, U⟩ := FZ.get (sz := 4) rfl (by decide) (i.le f) O
   obtain ⟨_, _, rfl, rfl, ⟨_, _, rfl, rfl, ⟨_, _, rfl, rfl, ⟨B, C, rfl, V⟩⟩⟩⟩ := S
   refine Ts rfl (sI K rfl rfl L U A sl46)<|Ts rfl (sP (vs := [iv g.Kind, iv g.A, iv g.B, sv B g.Kids C]) 4 rfl agg48 A rfl (fun j u hu => T j u hu))<|Do rfl (uA [iv 0, iv 0, iv 0, sn] zero48 rfl) ?_
   rintro _ _ ⟨ai, rfl, rfl⟩
   refine Do rfl (uN (vs := [_, _, _, _]) 0 4 rfl rfl rfl siz48 rfl (mc rfl (mc rfl (mc rfl (mc rfl mn)))) rfl (by simp)) ?_
   rintro _ _ rfl
   refine Te<|Cr<|M rfl rfl<|Ts rfl (sD (vs := [_, _, _, _]) 0 4 rfl agg48 rfl rfl rfl)<|M rfl rfl ?_
   obtain ⟨⟨W, X⟩, Y, hm⟩ := bS hm
   have hm := (unc2E hm)
   refine t_pullb 1 rfl<|Tg _ rfl call46 rfl (ih _ _ g n c B C (rFareCond_in V) W X Y) ?_
   rintro _ aj _ D ⟨rfl, rfl⟩
   refine Ts rfl (st_max rfl rfl)<|As rfl rfl<|Te<|Cr<|M rfl rfl<|Ts rfl (sN rfl)<|Ts rfl (sL 0 rfl one3 rfl rfl)<|Ts rfl (q3 rfl rfl)<|Te ?_
   refine Cc _ rfl (fun s => ?_) (fun s => ?_)
   rw [if_pos (of_decide_eq_true s)] at hm
   refine Ce<|Xi rfl<|Xe<|Xe<|Xo ?_
   have Z := I _ (Option.some.inj hm).symm
   rw [Z] at m
   have hm := elimR m
   obtain ⟨rfl, rfl⟩ := some2 hm
   exact xJ ⟨rfl, rfl, (f.trans D)⟩ (.cons_cons _ (.cons _ (.refl _)))
   rw [if_neg (of_decide_eq_false s)] at hm
   refine Ck<|Xm<|Xn<|Cg<|Ts rfl (sa rfl rfl (by omega))<|M rfl rfl<|Tn ?_
   exact xM hm ⟨rfl, rfl, ((f.trans D))⟩ (.cons_cons _ (.cons _ (.refl _)))
   rintro ⟨q, n⟩ r _ _ ⟨rfl, rfl, f⟩ aa
   rw [aa] at m
   have hm := elimL m
   have hm := (unc2E hm)
   refine Cr<|Ts rfl (lF rfl rfl (by omega))<|Te<|Cs<|c_cond_f rfl<|Ce<|Xe<|Xe<|Xo ?_
   obtain ⟨rfl, rfl⟩ := some2 hm
   exact xJ ⟨rfl, rfl, f⟩ (.refl _)
   rintro x _ _ ⟨rfl, rfl, ab⟩
   have hm := (unc2E G)
   refine Cr<|M rfl rfl ?_
   obtain ⟨_, t, hm⟩ := bS hm
   have t := (kS t).2
   refine Ts rfl (sa rfl rfl t)<|As rfl rfl<|Te<|Ct ?_
   obtain ⟨rfl, rfl⟩ := some2 hm
   exact rM (rs := [.tmp 4]) (vs := [iv (w + 1)]) ⟨rfl, trivial⟩ ⟨rfl, rfl⟩ (.refl _) ab

set_option maxRecDepth 20000 in
theorem cFishref2NumbersOf (b : Base) (R : Hp) (a : Int) (l : Int) (hm : mFishref2NumbersOf a = some l) :
    CallsG Tryz.prog 66 [iv a] b (R) (fun v b' hp' => iv l = v ∧ R = hp') := by
 refine fE 13 Tryz.func66 rfl Tryz.ntmps66 rfl ?_
 unfold mFishref2NumbersOf at hm
 refine Cr<|As rfl rfl<|Te<|Cs<|Cr<|M rfl rfl<|Te<|Cb ?_
 obtain ⟨o, p, q⟩ := bS hm
 refine Cj (fun c e' hp' => [(3, iv a), (4, bv o)] = e' ∧ R = hp' ∧ b.Le c) ?_ ?_
 have hm := p
 refine Cr<|Ts rfl (q1 rfl rfl)<|As rfl rfl<|Te ?_
 refine Cc _ rfl (fun d => ?_) (fun d => ?_)
 rw [if_pos (of_decide_eq_true d)] at hm
 refine Ck ?_
 obtain rfl := o1 hm
 exact xJ ⟨rfl, rfl, lr⟩ (.refl _)
 rw [if_neg (of_decide_eq_false d)] at hm
 refine Cr<|Ts rfl (q1 rfl rfl)<|As rfl rfl<|Te ?_
 refine Cc _ rfl (fun e => ?_) (fun e => ?_)
 rw [if_pos (of_decide_eq_true e)] at hm
 refine Ck ?_
 obtain rfl := o1 hm
 exact xJ ⟨rfl, rfl, lr⟩ (.refl _)
 rw [if_neg (of_decide_eq_false e)] at hm
 refine Cr<|Ts rfl (q1 rfl rfl)<|As rfl rfl<|Te ?_
 refine Cc _ rfl (fun f => ?_) (fun f => ?_)
 rw [if_pos (of_decide_eq_true f)] at hm
 refine Ck ?_
 obtain rfl := o1 hm
 exact xJ ⟨rfl, rfl, lr⟩ (.refl _)
 rw [if_neg (of_decide_eq_false f)] at hm
 refine Cg<|Ts rfl (q1 rfl rfl)<|As rfl rfl<|Tn ?_
 obtain rfl := o1 hm
 exact xJ ⟨rfl, rfl, lr⟩ (.refl _)
 rintro c _ _ ⟨rfl, rfl, g⟩
 have hm := q
 refine Cc _ rfl (fun h => ?_) (fun h => ?_)
 rw [if_pos h] at hm
 refine Cr<|As rfl rfl<|Te<|Ct<|Xb<|Xr ?_
 obtain rfl := o1 hm
 exact rM (rs := [.tmp 2]) (vs := [iv 2]) ⟨rfl, trivial⟩ ⟨rfl, rfl⟩ (.refl _) g
 rw [if_neg (fun hh => Bool.noConfusion (hh.symm.trans h))] at hm
 obtain ⟨r, s, t⟩ := bS hm
 refine Cj (fun m e' hp' => [(9, bv r)] = e' ∧ R = hp' ∧ c.Le m) ?_ ?_
 have hm := s
 refine Cr<|Ts rfl (q1 rfl rfl)<|As rfl rfl<|Te ?_
 refine Cc _ rfl (fun i => ?_) (fun i => ?_)
 rw [if_pos (of_decide_eq_true i)] at hm
 refine Ck ?_
 obtain rfl := o1 hm
 exact xJ ⟨rfl, rfl, lr⟩ (.refl _)
 rw [if_neg (of_decide_eq_false i)] at hm
 refine Cr<|Ts rfl (q1 rfl rfl)<|As rfl rfl<|Te ?_
 refine Cc _ rfl (fun j => ?_) (fun j => ?_)
 rw [if_pos (of_decide_eq_true j)] at hm
 refine Ck ?_
 obtain rfl := o1 hm
 exact xJ ⟨rfl, rfl, lr⟩ (.refl _)
 rw [if_neg (of_decide_eq_false j)] at hm
 refine Cg<|Ts rfl (q1 rfl rfl)<|As rfl rfl<|Tn ?_
 obtain rfl := o1 hm
 exact xJ ⟨rfl, rfl, lr⟩ (.refl _)
 rintro m _ _ ⟨rfl, rfl, n⟩
 have hm := t
 refine Cc _ rfl (fun k => ?_) (fun k => ?_)
 rw [if_pos k] at hm
 refine Cr<|As rfl rfl<|Te<|Ct<|Xb<|Xr ?_
 obtain rfl := o1 hm
 exact rM (rs := [.tmp 2]) (vs := [iv 1]) ⟨rfl, trivial⟩ ⟨rfl, rfl⟩ (.refl _) (g.trans n)
 rw [if_neg (fun hh => Bool.noConfusion (hh.symm.trans k))] at hm
 refine Ck<|Xm<|Xn<|Cr<|As rfl rfl<|Te<|Ct ?_
 obtain rfl := o1 hm
 exact rM (rs := [.tmp 2]) (vs := [iv 0]) ⟨rfl, trivial⟩ ⟨rfl, rfl⟩ (.refl _) (g.trans n)

set_option maxRecDepth 20000 in
theorem cFishref2NodeFault : ∀ (N : Nat) (b : Base) (R : Hp) (a : FareCond) (c : OA) (d : Nat) (n : FZ rFareCond b.w c d a.Kids) (o : Int) (hm : mFishref2NodeFault N a = some o),
    CallsG Tryz.prog 47 [.agg #[iv a.Kind, iv a.A, iv a.B, sv c a.Kids d]] b (R) (fun v b' hp' => iv o = v ∧ R = hp') := by
  intro N
  induction N with
  | zero =>
    intro b R a c d n o hm
    unfold mFishref2NodeFault at hm
    cases hm
  | succ N ih =>
   intro b R a c d n o hm
   refine fE 81 Tryz.func47 rfl Tryz.ntmps47 rfl ?_
   unfold mFishref2NodeFault at hm
   refine Cr<|Do rfl (uB _ rfl rfl) ?_
   rintro _ _ ⟨f, rfl, rfl⟩
   refine As rfl rfl<|Te<|Cs<|Cr<|Ts rfl (sF rfl fld48_0)<|Ts rfl (sL 0 rfl one3 rfl rfl) ?_
   obtain ⟨ag, ah, hm⟩ := bS hm
   refine Do rfl (uW _ call12 rfl (fun w ho => cFishref2Within _ [] a.Kind 0 11 ag ah) (fun _ _ _ h => h.2.symm)) ?_
   rintro _ _ ⟨⟨_, rfl, _⟩, rfl⟩
   refine Ts rfl (sn2 rfl)<|Te ?_
   refine Cc _ rfl (fun t => ?_) (fun t => ?_)
   rw [if_neg (fun hh => Bool.noConfusion (hh.symm.trans (nt t)))] at hm
   refine Cr<|As rfl rfl<|Te<|Ct<|Xr ?_
   obtain rfl := o1 hm
   exact rM (rs := [.tmp 2]) (vs := [iv 15]) ⟨rfl, trivial⟩ ⟨rfl, rfl⟩ (.cons _ (.refl _)) lr
   rw [if_pos (nf t)] at hm
   refine Ck<|Xn<|Cs ?_
   obtain ⟨ai, aj, ak⟩ := bS hm
   refine Cj (fun x e' hp' => [(1, pb f), (21, bv ai)] = e' ∧ (f, Cl 48 [iv a.Kind, iv a.A, iv a.B, sv c a.Kids d]) :: R = hp' ∧ b.Le x) ?_ ?_
   have hm := aj
   refine Cg<|Ts rfl (sF rfl fld48_1)<|Ts rfl (sL 0 rfl one3 rfl rfl) ?_
   obtain ⟨Y, al, hm⟩ := bS hm
   refine Do rfl (uW _ call12 rfl (fun w ho => cFishref2Within _ [] a.A 0 28800 Y al) (fun _ _ _ h => h.2.symm)) ?_
   rintro _ _ ⟨⟨_, rfl, _⟩, rfl⟩
   rcases Bool.eq_false_or_eq_true Y with k | k
   rw [if_pos k] at hm
   refine Tr 14 rfl (v' := .bool true) (by rw [k] <;> rfl)<|Ts rfl (st_not_t rfl)<|M rfl rfl<|Ys 16 rfl rfl rfl<|Ts rfl (sF rfl fld48_2)<|Ys 16 rfl rfl rfl<|Ts rfl (sL 0 rfl one3 rfl rfl)<|Ys 16 rfl rfl rfl ?_
   obtain ⟨am, an, hm⟩ := bS hm
   refine Do rfl (uW _ call12 rfl (fun w ho => cFishref2Within _ [] a.B 0 28800 am an) (fun _ _ _ h => h.2.symm)) ?_
   rintro _ _ ⟨⟨_, rfl, _⟩, rfl⟩
   refine Ys 16 rfl rfl rfl<|Ts rfl (sn2 rfl)<|Ts rfl (pF rfl rfl)<|Tn ?_
   obtain rfl := o1 hm
   exact xJ ⟨rfl, rfl, lr⟩ (.refl _)
   rw [if_neg (fun hh => Bool.noConfusion (hh.symm.trans k))] at hm
   refine Tr 14 rfl (v' := .bool false) (by rw [k] <;> rfl)<|Ts rfl (st_not_f rfl)<|M rfl rfl<|No 16 rfl rfl rfl rfl rfl<|No 16 rfl rfl rfl rfl rfl<|No 16 rfl rfl rfl rfl rfl<|No 16 rfl rfl rfl rfl rfl<|Ts rfl (pT rfl rfl)<|Tn ?_
   obtain rfl := o1 hm
   exact xJ ⟨rfl, rfl, lr⟩ (.refl _)
   rintro x _ _ ⟨rfl, rfl, e⟩
   have hm := ak
   refine Cc _ rfl (fun y => ?_) (fun y => ?_)
   rw [if_pos y] at hm
   refine Cr<|As rfl rfl<|Te<|Ct<|Xr ?_
   obtain rfl := o1 hm
   exact rM (rs := [.tmp 2]) (vs := [iv 2]) ⟨rfl, trivial⟩ ⟨rfl, rfl⟩ (.cons _ (.refl _)) e
   rw [if_neg (fun hh => Bool.noConfusion (hh.symm.trans y))] at hm
   refine Ck<|Xn<|Cr<|Ts rfl (sF rfl fld48_0)<|Ts rfl (sL 0 rfl one3 rfl rfl) ?_
   obtain ⟨ao, aq, hm⟩ := bS hm
   refine Do rfl (uW _ call66 rfl (fun w ho => cFishref2NumbersOf _ [] a.Kind ao aq) (fun _ _ _ h => h.2.symm)) ?_
   rintro _ _ ⟨⟨_, rfl, _⟩, rfl⟩
   refine As rfl rfl<|Te<|Cs ?_
   obtain ⟨ar, au, av⟩ := bS hm
   refine Cj (fun p e' hp' => [(1, pb f), (51, bv ar)] = e' ∧ (f, Cl 48 [iv a.Kind, iv a.A, iv a.B, sv c a.Kids d]) :: R = hp' ∧ x.Le p) ?_ ?_
   have hm := au
   refine Cg<|M rfl rfl ?_
   refine Tb rfl (q3 rfl rfl) (fun z => ?_) (fun z => ?_)
   rw [if_pos z] at hm
   refine M rfl rfl<|Ys 27 rfl rfl rfl<|Ts rfl (sF rfl fld48_1)<|Ys 27 rfl rfl rfl<|Ts rfl (sL 0 rfl one3 rfl rfl)<|Ys 27 rfl rfl rfl ?_
   refine Tb rfl (q2 rfl rfl) (fun A => ?_) (fun A => ?_)
   rw [if_pos A] at hm
   refine Ts rfl (pT rfl rfl)<|M rfl rfl<|No 32 rfl rfl rfl rfl rfl<|No 32 rfl rfl rfl rfl rfl<|No 32 rfl rfl rfl rfl rfl<|No 35 rfl rfl rfl rfl rfl<|No 35 rfl rfl rfl rfl rfl<|No 35 rfl rfl rfl rfl rfl<|No 32 rfl rfl rfl rfl rfl<|Ts rfl (pT rfl rfl) ?_
   refine M rfl rfl<|No 41 rfl rfl rfl rfl rfl<|No 41 rfl rfl rfl rfl rfl<|No 41 rfl rfl rfl rfl rfl<|No 44 rfl rfl rfl rfl rfl<|No 44 rfl rfl rfl rfl rfl<|No 44 rfl rfl rfl rfl rfl<|No 44 rfl rfl rfl rfl rfl<|No 44 rfl rfl rfl rfl rfl<|No 41 rfl rfl rfl rfl rfl ?_
   refine Ts rfl (pT rfl rfl)<|Tn ?_
   obtain rfl := o1 hm
   exact xJ ⟨rfl, rfl, lr⟩ (.refl _)
   rw [if_neg A] at hm
   refine Ts rfl (pT rfl rfl)<|M rfl rfl<|Ys 32 rfl rfl rfl<|M rfl rfl<|Ys 32 rfl rfl rfl ?_
   refine Tb rfl (q3 rfl rfl) (fun B => ?_) (fun B => ?_)
   rw [if_pos B] at hm
   refine Ys 32 rfl rfl rfl<|M rfl rfl<|Ys 35 rfl rfl rfl<|Ts rfl (sF rfl fld48_2)<|Ys 35 rfl rfl rfl<|Ts rfl (sL 0 rfl one3 rfl rfl)<|Ys 35 rfl rfl rfl ?_
   refine Tb rfl (q2 rfl rfl) (fun C => ?_) (fun C => ?_)
   rw [if_pos C] at hm
   refine Ys 32 rfl rfl rfl<|Ts rfl (pT rfl rfl)<|Ts rfl (pF rfl rfl)<|M rfl rfl<|No 41 rfl rfl rfl rfl rfl<|No 41 rfl rfl rfl rfl rfl<|No 41 rfl rfl rfl rfl rfl<|No 44 rfl rfl rfl rfl rfl<|No 44 rfl rfl rfl rfl rfl<|No 44 rfl rfl rfl rfl rfl ?_
   refine No 44 rfl rfl rfl rfl rfl<|No 44 rfl rfl rfl rfl rfl<|No 41 rfl rfl rfl rfl rfl<|Ts rfl (pT rfl rfl)<|Tn ?_
   obtain rfl := o1 hm
   exact xJ ⟨rfl, rfl, lr⟩ (.refl _)
   rw [if_neg C] at hm
   refine Ys 32 rfl rfl rfl<|Ts rfl (pT rfl rfl)<|Ts rfl (pF rfl rfl)<|M rfl rfl<|Ys 41 rfl rfl rfl<|M rfl rfl<|Ys 41 rfl rfl rfl ?_
   refine Tb rfl (q1 rfl rfl) (fun D => ?_) (fun D => ?_)
   rw [if_pos D] at hm
   refine Ys 41 rfl rfl rfl<|M rfl rfl<|Ys 44 rfl rfl rfl<|Ts rfl (sF rfl fld48_1)<|Ys 44 rfl rfl rfl<|Ts rfl (sL 0 rfl one3 rfl rfl)<|Ys 44 rfl rfl rfl<|Ts rfl (sF rfl fld48_2)<|Ys 44 rfl rfl rfl<|Ts rfl (sL 0 rfl one3 rfl rfl) ?_
   refine Ys 44 rfl rfl rfl<|Ts rfl (q5 rfl rfl)<|Ys 41 rfl rfl rfl<|Ts rfl (pT rfl rfl)<|Ts rfl (pF rfl rfl)<|Tn ?_
   obtain rfl := o1 hm
   exact xJ ⟨rfl, rfl, lr⟩ (.refl _)
   rw [if_neg D] at hm
   refine Ys 41 rfl rfl rfl<|M rfl rfl<|No 44 rfl rfl rfl rfl rfl<|No 44 rfl rfl rfl rfl rfl<|No 44 rfl rfl rfl rfl rfl<|No 44 rfl rfl rfl rfl rfl<|No 44 rfl rfl rfl rfl rfl<|Ys 41 rfl rfl rfl<|Ts rfl (pF rfl rfl)<|Ts rfl (pF rfl rfl) ?_
   refine Tn ?_
   obtain rfl := o1 hm
   exact xJ ⟨rfl, rfl, lr⟩ (.refl _)
   rw [if_neg B] at hm
   refine Ys 32 rfl rfl rfl<|M rfl rfl<|No 35 rfl rfl rfl rfl rfl<|No 35 rfl rfl rfl rfl rfl<|No 35 rfl rfl rfl rfl rfl<|Ys 32 rfl rfl rfl<|Ts rfl (pF rfl rfl)<|Ts rfl (pF rfl rfl)<|M rfl rfl<|Ys 41 rfl rfl rfl ?_
   refine M rfl rfl<|Ys 41 rfl rfl rfl ?_
   refine Tb rfl (q1 rfl rfl) (fun E => ?_) (fun E => ?_)
   rw [if_pos E] at hm
   refine Ys 41 rfl rfl rfl<|M rfl rfl<|Ys 44 rfl rfl rfl<|Ts rfl (sF rfl fld48_1)<|Ys 44 rfl rfl rfl<|Ts rfl (sL 0 rfl one3 rfl rfl)<|Ys 44 rfl rfl rfl<|Ts rfl (sF rfl fld48_2)<|Ys 44 rfl rfl rfl<|Ts rfl (sL 0 rfl one3 rfl rfl) ?_
   refine Ys 44 rfl rfl rfl<|Ts rfl (q5 rfl rfl)<|Ys 41 rfl rfl rfl<|Ts rfl (pT rfl rfl)<|Ts rfl (pF rfl rfl)<|Tn ?_
   obtain rfl := o1 hm
   exact xJ ⟨rfl, rfl, lr⟩ (.refl _)
   rw [if_neg E] at hm
   refine Ys 41 rfl rfl rfl<|M rfl rfl<|No 44 rfl rfl rfl rfl rfl<|No 44 rfl rfl rfl rfl rfl<|No 44 rfl rfl rfl rfl rfl<|No 44 rfl rfl rfl rfl rfl<|No 44 rfl rfl rfl rfl rfl<|Ys 41 rfl rfl rfl<|Ts rfl (pF rfl rfl)<|Ts rfl (pF rfl rfl) ?_
   refine Tn ?_
   obtain rfl := o1 hm
   exact xJ ⟨rfl, rfl, lr⟩ (.refl _)
   rw [if_neg z] at hm
   refine M rfl rfl<|No 27 rfl rfl rfl rfl rfl<|No 27 rfl rfl rfl rfl rfl<|No 27 rfl rfl rfl rfl rfl<|Ts rfl (pF rfl rfl)<|M rfl rfl<|Ys 32 rfl rfl rfl<|M rfl rfl<|Ys 32 rfl rfl rfl ?_
   refine Tb rfl (q3 rfl rfl) (fun F => ?_) (fun F => ?_)
   rw [if_pos F] at hm
   refine Ys 32 rfl rfl rfl<|M rfl rfl<|Ys 35 rfl rfl rfl<|Ts rfl (sF rfl fld48_2)<|Ys 35 rfl rfl rfl<|Ts rfl (sL 0 rfl one3 rfl rfl)<|Ys 35 rfl rfl rfl ?_
   refine Tb rfl (q2 rfl rfl) (fun G => ?_) (fun G => ?_)
   rw [if_pos G] at hm
   refine Ys 32 rfl rfl rfl<|Ts rfl (pT rfl rfl)<|Ts rfl (pF rfl rfl)<|M rfl rfl<|No 41 rfl rfl rfl rfl rfl<|No 41 rfl rfl rfl rfl rfl<|No 41 rfl rfl rfl rfl rfl<|No 44 rfl rfl rfl rfl rfl<|No 44 rfl rfl rfl rfl rfl<|No 44 rfl rfl rfl rfl rfl ?_
   refine No 44 rfl rfl rfl rfl rfl<|No 44 rfl rfl rfl rfl rfl<|No 41 rfl rfl rfl rfl rfl<|Ts rfl (pT rfl rfl)<|Tn ?_
   obtain rfl := o1 hm
   exact xJ ⟨rfl, rfl, lr⟩ (.refl _)
   rw [if_neg G] at hm
   refine Ys 32 rfl rfl rfl<|Ts rfl (pT rfl rfl)<|Ts rfl (pF rfl rfl)<|M rfl rfl<|Ys 41 rfl rfl rfl<|M rfl rfl<|Ys 41 rfl rfl rfl ?_
   refine Tb rfl (q1 rfl rfl) (fun H => ?_) (fun H => ?_)
   rw [if_pos H] at hm
   refine Ys 41 rfl rfl rfl<|M rfl rfl<|Ys 44 rfl rfl rfl<|Ts rfl (sF rfl fld48_1)<|Ys 44 rfl rfl rfl<|Ts rfl (sL 0 rfl one3 rfl rfl)<|Ys 44 rfl rfl rfl<|Ts rfl (sF rfl fld48_2)<|Ys 44 rfl rfl rfl<|Ts rfl (sL 0 rfl one3 rfl rfl) ?_
   refine Ys 44 rfl rfl rfl<|Ts rfl (q5 rfl rfl)<|Ys 41 rfl rfl rfl<|Ts rfl (pT rfl rfl)<|Ts rfl (pF rfl rfl)<|Tn ?_
   obtain rfl := o1 hm
   exact xJ ⟨rfl, rfl, lr⟩ (.refl _)
   rw [if_neg H] at hm
   refine Ys 41 rfl rfl rfl<|M rfl rfl<|No 44 rfl rfl rfl rfl rfl<|No 44 rfl rfl rfl rfl rfl<|No 44 rfl rfl rfl rfl rfl<|No 44 rfl rfl rfl rfl rfl<|No 44 rfl rfl rfl rfl rfl<|Ys 41 rfl rfl rfl<|Ts rfl (pF rfl rfl)<|Ts rfl (pF rfl rfl) ?_
   refine Tn ?_
   obtain rfl := o1 hm
   exact xJ ⟨rfl, rfl, lr⟩ (.refl _)
   rw [if_neg F] at hm
   refine Ys 32 rfl rfl rfl<|M rfl rfl<|No 35 rfl rfl rfl rfl rfl<|No 35 rfl rfl rfl rfl rfl<|No 35 rfl rfl rfl rfl rfl<|Ys 32 rfl rfl rfl<|Ts rfl (pF rfl rfl)<|Ts rfl (pF rfl rfl)<|M rfl rfl<|Ys 41 rfl rfl rfl ?_
   refine M rfl rfl<|Ys 41 rfl rfl rfl ?_
   refine Tb rfl (q1 rfl rfl) (fun I => ?_) (fun I => ?_)
   rw [if_pos I] at hm
   refine Ys 41 rfl rfl rfl<|M rfl rfl<|Ys 44 rfl rfl rfl<|Ts rfl (sF rfl fld48_1)<|Ys 44 rfl rfl rfl<|Ts rfl (sL 0 rfl one3 rfl rfl)<|Ys 44 rfl rfl rfl<|Ts rfl (sF rfl fld48_2)<|Ys 44 rfl rfl rfl<|Ts rfl (sL 0 rfl one3 rfl rfl) ?_
   refine Ys 44 rfl rfl rfl<|Ts rfl (q5 rfl rfl)<|Ys 41 rfl rfl rfl<|Ts rfl (pT rfl rfl)<|Ts rfl (pF rfl rfl)<|Tn ?_
   obtain rfl := o1 hm
   exact xJ ⟨rfl, rfl, lr⟩ (.refl _)
   rw [if_neg I] at hm
   refine Ys 41 rfl rfl rfl<|M rfl rfl<|No 44 rfl rfl rfl rfl rfl<|No 44 rfl rfl rfl rfl rfl<|No 44 rfl rfl rfl rfl rfl<|No 44 rfl rfl rfl rfl rfl<|No 44 rfl rfl rfl rfl rfl<|Ys 41 rfl rfl rfl<|Ts rfl (pF rfl rfl)<|Ts rfl (pF rfl rfl) ?_
   refine Tn ?_
   obtain rfl := o1 hm
   exact xJ ⟨rfl, rfl, lr⟩ (.refl _)
   rintro p _ _ ⟨rfl, rfl, g⟩
   have hm := av
   refine Cc _ rfl (fun J => ?_) (fun J => ?_)
   rw [if_pos J] at hm
   refine Cr<|As rfl rfl<|Te<|Ct<|Xr ?_
   obtain rfl := o1 hm
   exact rM (rs := [.tmp 2]) (vs := [iv 1]) ⟨rfl, trivial⟩ ⟨rfl, rfl⟩ (.cons _ (.refl _)) (e.trans g)
   rw [if_neg (fun hh => Bool.noConfusion (hh.symm.trans J))] at hm
   refine Ck<|Xn<|Cr<|Ts rfl (sF rfl fld48_3)<|Ts rfl (sL 0 rfl one46 rfl rfl)<|Ts rfl (sE rfl sl46)<|As rfl rfl<|Te ?_
   obtain ⟨aw, ax, i⟩ := bS hm
   refine Cj (fun K e' hp' => [(1, pb f)] = e' ∧ (f, Cl 48 [iv a.Kind, iv a.A, iv a.B, sv c a.Kids d]) :: R = hp' ∧ p.Le K ∧ aw = .inl ()) ?_ ?_
   have hm := ax
   refine Cr<|Ts rfl (sF rfl fld48_0)<|Ts rfl (sL 0 rfl one3 rfl rfl)<|Te<|Cb<|Cr<|Ts rfl (q1 rfl rfl)<|As rfl rfl<|Te ?_
   refine Cc _ rfl (fun L => ?_) (fun L => ?_)
   rw [if_pos (of_decide_eq_true L)] at hm
   refine Cr<|M rfl rfl<|Ts rfl (q2 rfl rfl)<|Te ?_
   refine Cc _ rfl (fun O => ?_) (fun O => ?_)
   rw [if_pos (of_decide_eq_true O)] at hm
   refine Cr<|As rfl rfl<|Te<|Ct<|Xb<|Xr ?_
   have ay := (Option.some.inj hm).symm
   rw [ay] at i
   have hm := elimR i
   obtain rfl := o1 hm
   exact rM (rs := [.tmp 2]) (vs := [iv 1]) ⟨rfl, trivial⟩ ⟨rfl, rfl⟩ (.cons _ (.refl _)) (e.trans g)
   rw [if_neg (of_decide_eq_false O)] at hm
   refine Ck<|Xm ?_
   have hq := (Option.some.inj hm).symm
   exact xJ ⟨rfl, rfl, lr, hq⟩ (.refl _)
   rw [if_neg (of_decide_eq_false L)] at hm
   obtain ⟨az, aA, aB⟩ := bS hm
   refine Cj (fun Z e' hp' => [(1, pb f), (4, iv ((a.Kids.length : Int))), (63, bv az)] = e' ∧ (f, Cl 48 [iv a.Kind, iv a.A, iv a.B, sv c a.Kids d]) :: R = hp' ∧ p.Le Z) ?_ ?_
   have hm := aA
   refine Cr<|Ts rfl (q1 rfl rfl)<|As rfl rfl<|Te ?_
   refine Cc _ rfl (fun S => ?_) (fun S => ?_)
   rw [if_pos (of_decide_eq_true S)] at hm
   refine Ck ?_
   obtain rfl := o1 hm
   exact xJ ⟨rfl, rfl, lr⟩ (.refl _)
   rw [if_neg (of_decide_eq_false S)] at hm
   refine Cg<|Ts rfl (q1 rfl rfl)<|As rfl rfl<|Tn ?_
   obtain rfl := o1 hm
   exact xJ ⟨rfl, rfl, lr⟩ (.refl _)
   rintro Z _ _ ⟨rfl, rfl, q⟩
   have hm := aB
   refine Cc _ rfl (fun T => ?_) (fun T => ?_)
   rw [if_pos T] at hm
   refine Cr<|M rfl rfl<|Ts rfl (q3 rfl rfl)<|Te ?_
   refine Cc _ rfl (fun U => ?_) (fun U => ?_)
   rw [if_pos (of_decide_eq_true U)] at hm
   refine Cr<|As rfl rfl<|Te<|Ct<|Xb<|Xr ?_
   have aC := (Option.some.inj hm).symm
   rw [aC] at i
   have hm := elimR i
   obtain rfl := o1 hm
   exact rM (rs := [.tmp 2]) (vs := [iv 1]) ⟨rfl, trivial⟩ ⟨rfl, rfl⟩ (.cons _ (.refl _)) (e.trans (g.trans q))
   rw [if_neg (of_decide_eq_false U)] at hm
   refine Ck<|Xm ?_
   have hq := (Option.some.inj hm).symm
   exact xJ ⟨rfl, rfl, q, hq⟩ (.refl _)
   rw [if_neg (fun hh => Bool.noConfusion (hh.symm.trans T))] at hm
   refine Cr<|M rfl rfl<|Ts rfl (q5 rfl rfl)<|Te ?_
   refine Cc _ rfl (fun V => ?_) (fun V => ?_)
   rw [if_pos (of_decide_eq_true V)] at hm
   refine Cr<|As rfl rfl<|Te<|Ct<|Xb<|Xr ?_
   have aD := (Option.some.inj hm).symm
   rw [aD] at i
   have hm := elimR i
   obtain rfl := o1 hm
   exact rM (rs := [.tmp 2]) (vs := [iv 1]) ⟨rfl, trivial⟩ ⟨rfl, rfl⟩ (.cons _ (.refl _)) (e.trans (g.trans q))
   rw [if_neg (of_decide_eq_false V)] at hm
   refine Ck<|Xm ?_
   have hq := (Option.some.inj hm).symm
   exact xJ ⟨rfl, rfl, q, hq⟩ (.refl _)
   rintro K _ _ ⟨rfl, rfl, r, aE⟩
   rw [aE] at i
   have hm := elimL i
   refine Cs<|Cr<|Ts rfl (sF rfl fld48_3)<|Ts rfl (sL 0 rfl one46 rfl rfl)<|Ts rfl (sE rfl sl46)<|M rfl rfl<|Te<|Cb ?_
   have aS : a.Kids.length ≤ 9223372036854775807 := (FZ.bd (n.le (e.trans (g.trans r))))
   obtain ⟨aT, aF, s⟩ := bS hm
   refine cF (fun aa => fun _ => fun W e' hp' => [(69, sv c a.Kids d), (70, iv ((a.Kids.length : Int))), (71, iv ((aa : Int)))] = e' ∧ R = hp' ∧ K.Le W) aF ⟨rfl, rfl, lr⟩ (.cons _ (.refl _)) ?_ ?_
   rintro aa _ W _ _ aU aV ⟨rfl, rfl, l⟩ ab aG
   unfold mFishref2NodeFault_L318 at ab
   have hm := ab
   refine Cr<|Ts rfl (lT rfl rfl (by omega))<|Te<|Cs<|c_cond_t rfl<|Ck<|Xn<|Cs<|Cb<|Cr ?_
   obtain ⟨m, aH, hm⟩ := bS hm
   obtain ⟨aI, aJ, aK⟩ := iS aH
   obtain ⟨aW, aL, aM, ac, aN⟩ := FZ.get (sz := 4) rfl (by decide) (n.le (e.trans (g.trans (r.trans l)))) aK
   obtain ⟨_, _, rfl, rfl, ⟨_, _, rfl, rfl, ⟨_, _, rfl, rfl, ⟨ad, ae, rfl, aO⟩⟩⟩⟩ := aL
   refine Ts rfl (sI aI rfl rfl aJ aN ac sl46)<|Ts rfl (sP (vs := [iv m.Kind, iv m.A, iv m.B, sv ad m.Kids ae]) 4 rfl agg48 ac rfl (fun j u hu => aM j u hu))<|Do rfl (uA [iv 0, iv 0, iv 0, sn] zero48 rfl) ?_
   rintro _ _ ⟨aX, rfl, rfl⟩
   refine Do rfl (uN (vs := [_, _, _, _]) 0 4 rfl rfl rfl siz48 rfl (mc rfl (mc rfl (mc rfl (mc rfl mn)))) rfl (by simp)) ?_
   rintro _ _ rfl
   refine Te<|Cr<|Ts rfl (sD (vs := [_, _, _, _]) 0 4 rfl agg48 rfl rfl rfl) ?_
   obtain ⟨af, aP, hm⟩ := bS hm
   refine Do rfl (uW _ call47 rfl (fun w ho => ih _ [] m ad ae ((rFareCond_in aO).old ho) af aP) (fun _ _ _ h => h.2.symm)) ?_
   rintro _ _ ⟨⟨_, rfl, _⟩, rfl⟩
   refine As rfl rfl<|Te<|Cr<|M rfl rfl<|Ts rfl (q2 rfl rfl)<|Te ?_
   refine Cc _ rfl (fun X => ?_) (fun X => ?_)
   rw [if_pos (of_decide_eq_true X)] at hm
   refine Cr<|M rfl rfl<|As rfl rfl<|Te<|Ct<|Xb<|Xr<|Xr<|Xb<|Xr ?_
   have aQ := aG _ (Option.some.inj hm).symm
   rw [aQ] at s
   have hm := elimR s
   obtain rfl := o1 hm
   exact rM (rs := [.tmp 2]) (vs := [iv af]) ⟨rfl, trivial⟩ ⟨rfl, rfl⟩ (.cons _ (.refl _)) (e.trans (g.trans (r.trans l)))
   rw [if_neg (of_decide_eq_false X)] at hm
   refine Ck<|Xm<|Xn<|Cg<|Ts rfl (sa rfl rfl (by omega))<|M rfl rfl<|Tn ?_
   exact xM hm ⟨rfl, rfl, (l)⟩ (.cons _ (.refl _))
   rintro _ W _ _ ⟨rfl, rfl, l⟩ aR
   rw [aR] at s
   have hm := elimL s
   refine Cr<|Ts rfl (lF rfl rfl (by omega))<|Te<|Cs<|c_cond_f rfl<|Ce<|Xe<|Xe<|Xo<|Xn ?_
   refine Cr<|As rfl rfl<|Te<|Ct ?_
   obtain rfl := o1 hm
   exact rM (rs := [.tmp 2]) (vs := [iv 0]) ⟨rfl, trivial⟩ ⟨rfl, rfl⟩ (.refl _) (e.trans (g.trans (r.trans l)))

set_option maxRecDepth 20000 in
theorem cFishref2CondFault (b : Base) (R : Hp) (a : FareCond) (c : OA) (d : Nat) (l : FZ rFareCond b.w c d a.Kids) (m : Int) (hm : mFishref2CondFault a = some m) :
    CallsG Tryz.prog 27 [.agg #[iv a.Kind, iv a.A, iv a.B, sv c a.Kids d]] b (R) (fun v b' hp' => iv m = v ∧ R = hp') := by
 refine fE 15 Tryz.func27 rfl Tryz.ntmps27 rfl ?_
 unfold mFishref2CondFault at hm
 refine Cr<|Do rfl (uB _ rfl rfl) ?_
 rintro _ _ ⟨n, rfl, rfl⟩
 refine As rfl rfl<|Te<|Cr<|Do rfl (uA [iv 0] zero3 rfl) ?_
 rintro _ _ ⟨q, rfl, rfl⟩
 refine Do rfl (uS 0 rfl rfl siz3 rfl rfl (by simp)) ?_
 rintro _ _ rfl
 refine Te<|Cs<|Cr<|Ts rfl (sD (vs := [_, _, _, _]) 1 4 rfl agg48 rfl rfl rfl) ?_
 obtain ⟨⟨r, s⟩, e, hm⟩ := bS hm
 obtain ⟨t, e⟩ := lim_some e
 have hm := (unc2E hm)
 refine Tg _ rfl call46 rfl (cFishref2Shape t _ _ a 40 q c d l r s e) ?_
 rintro _ u _ f ⟨rfl, rfl⟩
 refine As rfl rfl<|Te ?_
 obtain ⟨x, y, z⟩ := bS hm
 refine Cj (fun o e' hp' => [(1, pb n), (12, bv x)] = e' ∧ (n, Cl 48 [iv a.Kind, iv a.A, iv a.B, sv c a.Kids d]) :: R = hp' ∧ u.Le o) ?_ ?_
 have hm := y
 refine Cg<|Ts rfl (sL 0 rfl one3 rfl rfl) ?_
 refine Tb rfl (q3 rfl rfl) (fun g => ?_) (fun g => ?_)
 rw [if_pos g] at hm
 refine M rfl rfl<|No 9 rfl rfl rfl rfl rfl<|No 9 rfl rfl rfl rfl rfl<|Ts rfl (pT rfl rfl)<|Tn ?_
 obtain rfl := o1 hm
 refine Xp 1 rfl ?_
 exact xJ ⟨rfl, rfl, lr⟩ (.cons_cons _ (.cons _ (.refl _)))
 rw [if_neg g] at hm
 refine M rfl rfl<|Ys 9 rfl rfl rfl<|M rfl rfl<|Ys 9 rfl rfl rfl<|Ts rfl (q5 rfl rfl)<|Ts rfl (pF rfl rfl)<|Tn ?_
 obtain rfl := o1 hm
 refine Xp 1 rfl ?_
 exact xJ ⟨rfl, rfl, lr⟩ (.cons_cons _ (.cons _ (.refl _)))
 rintro o _ _ ⟨rfl, rfl, i⟩
 have hm := z
 refine Cc _ rfl (fun j => ?_) (fun j => ?_)
 rw [if_pos j] at hm
 refine Cr<|As rfl rfl<|Te<|Ct<|Xr ?_
 obtain rfl := o1 hm
 exact rM (rs := [.tmp 2]) (vs := [iv 4]) ⟨rfl, trivial⟩ ⟨rfl, rfl⟩ (.cons _ (.refl _)) (f.trans i)
 rw [if_neg (fun hh => Bool.noConfusion (hh.symm.trans j))] at hm
 refine Ck<|Xn<|Cr<|Ts rfl (sD (vs := [_, _, _, _]) 0 4 rfl agg48 rfl rfl rfl) ?_
 obtain ⟨p, k, hm⟩ := bS hm
 obtain ⟨A, k⟩ := lim_some k
 refine Do rfl (uW _ call47 rfl (fun w ho => cFishref2NodeFault A _ [] a c d ((l.le (f.trans i)).old ho) p k) (fun _ _ _ h => h.2.symm)) ?_
 rintro _ _ ⟨⟨_, rfl, _⟩, rfl⟩
 refine As rfl rfl<|Te<|Ct ?_
 obtain rfl := o1 hm
 exact rM (rs := [.tmp 2]) (vs := [iv p]) ⟨rfl, trivial⟩ ⟨rfl, rfl⟩ (.cons _ (.refl _)) (f.trans i)

end Go.Proofs.YtiajmiigkjmakaaGreatDoor
