/- Contracts: the code computes its model (part 1). -/
import Derived.Test.YtckgfeglhjiflaaDoorWT
import Derived.Test.YtckgfeglhjiflaaDoorSh2
import Derived.Test.YtckgfeglhjiflaaDoorWRK
import Derived.Test.YtckgfeglhjiflaaDoorX0
import Derived.Test.YtckgfeglhjiflaaDoorBW
import Derived.Test.YtckgfeglhjiflaaDoorXO
set_option linter.unusedVariables false
set_option linter.unusedSimpArgs false
namespace Go.Proofs.YtckgfeglhjiflaaDoor
open Go.RowKit Go.Fp

open Go.Fp renaming t_ne → Te, t_nil → Tn, t_bool → Tb, t_callG → Tg, t_callvG → Tv, t_resp → Tr, c_sr → Cr, c_seq → Cs, c_region → Cg, c_block → Cb, c_ret → Ct, c_skip → Ck, c_exit → Ce, c_join → Cj, c_pullb → Cp, x_then_normal → Xn, x_then_ret → Xr, x_then_exit → Xe, x_block_ret → Xb, x_block_normal → Xm, x_block_out → Xo, x_pullb → Xp, x_front2 → X2, x_front6 → X6, E_st → Es, E_s0 → E0, E_yes → Ey, E_y0 → Yz, E_in → Ei, E_il → El, E_out → Eo, D_all → Da, D_done → Dd, D_drawI → Di, R_do → Rd2, R_nil → Rn, R_callGl → Rg, st_load → sL, st_loadD → sD, st_field → sF, st_nil → sN, st_len → sE, st_move → sM, st_assign → sA, st_pick_t → pT, st_pick_f → pF, st_index_old → sI, st_load_old → sO, st_loadN_old → sP, st_field_old → sQ, st_add → sa, st_sub → sb, st_lss_t → lT, st_lss_f → lF, st_eql_t → eT, st_eql_f → eF, st_not → sn2, st_build → sB, u_box → uB, u_alloc → uA, u_store → uS, u_storeN → uN, u_callW0 → uW, u_putOS → uP, u_appOS → uQ, fn_enterG → fE, bindS → bS, some1 → o1, idx_some → iS, sub_skip → ss, sub_app → sp, chk_some → kS, d_front2 → d2, d_front4 → d4, mem_c → mc, mem_n → mn, st_eql → q1, st_neq → q2, st_lss → q3, st_leq → q4, st_gtr → q5, st_geq → q6
set_option maxRecDepth 20000 in
theorem cPlanForm (b : Base) (R : Hp) (m : ApiDay) (I J A5 c6) (h4 : FZ rApiTrain b.w I J m.Trains) (h7 : FZ (RT.list rI) b.w A5 c6 m.Turns) (af) (hm : mPlanForm m = some af):
    CallsG Tryd.prog 98 [.agg #[sv I m.Trains J, sv A5 m.Turns c6]] b (R) (fun v b' hp' => iv af = v ∧ R = hp') := by
 refine fE 85 Tryd.func98 rfl Tryd.ntmps98 rfl ?_
 unfold mPlanForm at hm
 refine Cr<|tD (uB _ rfl rfl) ?_
 rintro _ _ ⟨k, rfl, rfl⟩
 refine aS rfl<|Te<|Cs ?_
 obtain ⟨aR, aj, ak⟩ := bS hm
 refine Cj (fun K e' hp' => [(1, pb k), (20, bv aR)] = e' ∧ (k, Cl 25 [sv I m.Trains J, sv A5 m.Turns c6]) :: R = hp' ∧ b.Le K) ?_ ?_
 have hm := aj
 refine Cg<|tS (sF rfl fld25_0)<|tS (sL 0 rfl one22 rfl rfl)<|tS (sE rfl sl22) ?_
 refine Tb rfl (q5 rfl rfl) (fun B => ?_) (fun B => ?_)
 rw [if_pos B] at hm
 refine mV rfl<|nO<|nO<|nO<|nO<|tS (pT rfl rfl)<|Tn ?_
 obtain rfl := o1 hm
 exact jJ ⟨rfl, rfl, lr⟩
 rw [if_neg B] at hm
 refine mV rfl<|yS<|tS (sF rfl fld25_1)<|yS<|tS (sL 0 rfl one23 rfl rfl)<|yS<|tS (sE rfl sl23)<|yS<|tS (q5 rfl rfl)<|tS (pF rfl rfl) ?_
 refine Tn ?_
 obtain rfl := o1 hm
 exact jJ ⟨rfl, rfl, lr⟩
 rintro K _ _ ⟨rfl, rfl, a⟩
 have hm := ak
 refine cB hm rfl (fun hm => ?_) fun hm => ?_
 refine Cr<|aS rfl<|Te<|Ct<|Xr ?_
 obtain rfl := o1 hm
 exact rO ⟨rfl, rfl⟩ a
 refine Ck<|Xn<|Cs<|Cr<|tS (sF rfl fld25_0)<|tS (sL 0 rfl one22 rfl rfl)<|tS (sE rfl sl22)<|mV rfl<|Te<|Cb ?_
 have a2 : m.Trains.length ≤ 9223372036854775807 := (FZ.bd (h4.le a))
 obtain ⟨bi, al, g⟩ := bS hm
 refine lF (fun x => fun _ => fun y e' hp' => [(1, pb k), (22, sv I m.Trains J), (23, iv ((m.Trains.length : Int))), (24, iv ((x : Int)))] = e' ∧ (k, Cl 25 [sv I m.Trains J, sv A5 m.Turns c6]) :: R = hp' ∧ K.Le y) al ⟨rfl, rfl, lr⟩ ?_ ?_
 rintro x _ y _ _ a3 aT ⟨rfl, rfl, c⟩ o h
 unfold mPlanForm_L283 at o
 have hm := o
 refine Cr<|tS (lT rfl rfl (by omega))<|Te<|Cs<|c_cond_t rfl<|Ck<|Xn<|Cs<|Cb<|Cr ?_
 obtain ⟨d, aU, a4, am, a5, an, X, L, Y, hm⟩ := bF (sz := 4) hm (h4.le (a.trans c))
 obtain ⟨_, _, rfl, rfl, ⟨_, _, rfl, rfl, ⟨_, _, rfl, ⟨O, S, rfl, bj⟩, ⟨z, A, rfl, D⟩⟩⟩⟩ := an
 refine tS (sI aU rfl rfl am Y L sl22)<|tS (sP (vs := [iv d.No, iv d.Stock, sv O d.Stops S, sv z d.Legs A]) 4 rfl agg47 L rfl (fun j u hu => X j u hu))<|tD (uA [iv 0, iv 0, sn, sn] zero47 rfl) ?_
 rintro _ _ ⟨E, rfl, rfl⟩
 refine tD (uN (vs := [_, _, _, _]) 0 4 rfl rfl rfl siz47 rfl (mc rfl (mc rfl (mc rfl (mc rfl mn)))) rfl (by simp)) ?_
 rintro _ _ rfl
 refine Te<|Cs ?_
 obtain ⟨aV, ao, aq⟩ := bS hm
 refine Cj (fun T e' hp' => [(1, pb k), (4, pb E), (22, sv I m.Trains J), (23, iv ((m.Trains.length : Int))), (24, iv ((x : Int))), (41, bv aV)] = e' ∧ (k, Cl 25 [sv I m.Trains J, sv A5 m.Turns c6]) :: (E, Cl 47 [iv d.No, iv d.Stock, sv O d.Stops S, sv z d.Legs A]) :: R = hp' ∧ y.Le T) ?_ ?_
 have hm := ao
 refine Cg<|tS (sF rfl fld47_2)<|tS (sL 0 rfl one45 rfl rfl)<|tS (sE rfl sl45) ?_
 refine Tb rfl (q1 rfl rfl) (fun C => ?_) (fun C => ?_)
 rw [if_pos C] at hm
 refine mV rfl<|nO<|nO<|nO<|nO<|nO<|nO<|nO<|nO<|tS (pT rfl rfl) ?_
 refine Tn ?_
 obtain rfl := o1 hm
 exact jJ ⟨rfl, rfl, lr⟩
 rw [if_neg C] at hm
 refine mV rfl<|yS<|tS (sF rfl fld47_3)<|yS<|tS (sL 0 rfl one23 rfl rfl)<|yS<|tS (sE rfl sl23)<|yS<|tS (sF rfl fld47_2)<|yS ?_
 refine tS (sL 0 rfl one45 rfl rfl)<|yS<|tS (sE rfl sl45)<|yS ?_
 obtain ⟨_, U, hm⟩ := bS hm
 have U := (kS U).2
 refine tS (sb rfl rfl U)<|yS<|tS (q2 rfl rfl)<|tS (pF rfl rfl)<|Tn ?_
 obtain rfl := o1 hm
 exact jJ ⟨rfl, rfl, lr⟩
 rintro T _ _ ⟨rfl, rfl, e⟩
 have hm := aq
 refine cB hm rfl (fun hm => ?_) fun hm => ?_
 refine Cr<|aS rfl<|Te<|Ct<|Xr<|Xb<|Xr<|Xr<|Xb<|Xr ?_
 have ar := h _ (Option.some.inj hm).symm
 rw [ar] at g
 have hm := elimR g
 obtain rfl := o1 hm
 exact rO ⟨rfl, rfl⟩ (a.trans (c.trans e))
 refine Ck<|Xn<|Cs<|Cr<|tS (sF rfl fld47_3)<|tS (sL 1 rfl one23 rfl rfl)<|tS (sE rfl sl23)<|mV rfl<|Te<|Cb ?_
 have a6 : d.Legs.length ≤ 9223372036854775807 := (FZ.bd (D.le e))
 refine Cp 1 rfl<|Cp 1 rfl ?_
 obtain ⟨bk, au, t⟩ := bS hm
 refine lF (fun ag => fun _ => fun F e' hp' => [(1, pb k), (4, pb E), (22, sv I m.Trains J), (23, iv ((m.Trains.length : Int))), (24, iv ((x : Int))), (43, sv z d.Legs A), (44, iv ((d.Legs.length : Int))), (45, iv ((ag : Int)))] = e' ∧ (k, Cl 25 [sv I m.Trains J, sv A5 m.Turns c6]) :: (E, Cl 47 [iv d.No, iv d.Stock, sv O d.Stops S, sv z d.Legs A]) :: R = hp' ∧ T.Le F) au ⟨rfl, rfl, lr⟩ ?_ ?_
 rintro ag _ F _ _ a7 aW ⟨rfl, rfl, f⟩ p G
 unfold mPlanForm_L419 at p
 have hm := p
 refine Cr<|tS (lT rfl rfl (by omega))<|Te<|Cs<|c_cond_t rfl<|Ck<|Xn<|Cs<|Cb<|Cr ?_
 obtain ⟨bl, aX, a8, av, a9, aw, Z, ax, aa, hm⟩ := bF (sz := 1) hm (D.le (e.trans f))
 obtain ⟨bm, bn, rfl, bo⟩ := aw
 refine tS (sI aX rfl rfl av aa ax sl23)<|tS (sO rfl one49 (Z 0 _ rfl))<|aS rfl<|Te<|Cr<|mV rfl<|tS (sE rfl sl49)<|tS (q1 rfl rfl)<|Te ?_
 refine cI hm rfl (fun hm => ?_) fun hm => ?_
 refine Cr<|aS rfl<|Te<|Ct<|Xb<|Xr<|Xr<|Xb<|Xr<|Xb ?_
 refine Xr<|Xr<|Xb<|Xr ?_
 have ay := G _ (Option.some.inj hm).symm
 rw [ay] at t
 have hm := elimR t
 have az := h _ (Option.some.inj hm).symm
 rw [az] at g
 have hm := elimR g
 obtain rfl := o1 hm
 exact rO ⟨rfl, rfl⟩ (a.trans (c.trans (e.trans f)))
 refine Ck<|Xm<|Xn<|Cg<|tS (sa rfl rfl (by omega))<|mV rfl<|Tn ?_
 exact jM hm ⟨rfl, rfl, (f)⟩
 rintro _ F _ _ ⟨rfl, rfl, f⟩ aA
 rw [aA] at t
 have hm := elimL t
 refine Cr<|tS (lF rfl rfl (by omega))<|Te<|Cs<|c_cond_f rfl<|Ce<|Xe<|Xe<|Xo<|Xn ?_
 refine Cs<|Cr<|tS (sF rfl fld47_2)<|tS (sL 1 rfl one45 rfl rfl)<|tS (sE rfl sl45)<|tS (q5 rfl rfl)<|Te ?_
 refine cI hm rfl (fun hm => ?_) fun hm => ?_
 refine Cr<|aS rfl<|Te<|Ct<|Xr<|Xb<|Xr<|Xr<|Xb<|Xr ?_
 have aB := h _ (Option.some.inj hm).symm
 rw [aB] at g
 have hm := elimR g
 obtain rfl := o1 hm
 exact rO ⟨rfl, rfl⟩ (a.trans (c.trans (e.trans f)))
 refine Ck<|Xn<|Cr<|tS (sF rfl fld47_3)<|tS (sL 1 rfl one23 rfl rfl)<|tS (sE rfl sl23)<|mV rfl<|Te<|Cb ?_
 have ba : d.Legs.length ≤ 9223372036854775807 := (FZ.bd (D.le (e.trans f)))
 obtain ⟨bp, aC, w⟩ := bS hm
 refine lF (fun ah => fun _ => fun V e' hp' => [(1, pb k), (22, sv I m.Trains J), (23, iv ((m.Trains.length : Int))), (24, iv ((x : Int))), (58, sv z d.Legs A), (59, iv ((d.Legs.length : Int))), (60, iv ((ah : Int)))] = e' ∧ (k, Cl 25 [sv I m.Trains J, sv A5 m.Turns c6]) :: R = hp' ∧ F.Le V) aC ⟨rfl, rfl, lr⟩ ?_ ?_
 rintro ah _ V _ _ bb aY ⟨rfl, rfl, l⟩ q H
 unfold mPlanForm_L460 at q
 have hm := q
 refine Cr<|tS (lT rfl rfl (by omega))<|Te<|Cs<|c_cond_t rfl<|Ck<|Xn<|Cs<|Cb<|Cr ?_
 obtain ⟨bq, aZ, bc, aD, bd, aE, ab, aF, ac, hm⟩ := bF (sz := 1) hm (D.le (e.trans (f.trans l)))
 obtain ⟨br, bs, rfl, bt⟩ := aE
 refine tS (sI aZ rfl rfl aD ac aF sl23)<|tS (sO rfl one49 (ab 0 _ rfl))<|aS rfl<|Te<|Cr<|mV rfl<|tS (sE rfl sl49)<|tS (q5 rfl rfl)<|Te ?_
 refine cI hm rfl (fun hm => ?_) fun hm => ?_
 refine Cr<|aS rfl<|Te<|Ct<|Xb<|Xr<|Xr<|Xb<|Xb<|Xr ?_
 refine Xr<|Xb<|Xr ?_
 have aG := H _ (Option.some.inj hm).symm
 rw [aG] at w
 have hm := elimR w
 have aH := h _ (Option.some.inj hm).symm
 rw [aH] at g
 have hm := elimR g
 obtain rfl := o1 hm
 exact rO ⟨rfl, rfl⟩ (a.trans (c.trans (e.trans (f.trans l))))
 refine Ck<|Xm<|Xn<|Cg<|tS (sa rfl rfl (by omega))<|mV rfl<|Tn ?_
 exact jM hm ⟨rfl, rfl, (l)⟩
 rintro _ V _ _ ⟨rfl, rfl, l⟩ aI
 rw [aI] at w
 have hm := elimL w
 refine Cr<|tS (lF rfl rfl (by omega))<|Te<|Cs<|c_cond_f rfl<|Ce<|Xe<|Xe<|Xo<|Xm ?_
 refine Xn<|Cg<|tS (sa rfl rfl (by omega))<|mV rfl<|Tn ?_
 exact jM hm ⟨rfl, rfl, ((c.trans (e.trans (f.trans l))))⟩
 rintro _ y _ _ ⟨rfl, rfl, c⟩ aJ
 rw [aJ] at g
 have hm := elimL g
 refine Cr<|tS (lF rfl rfl (by omega))<|Te<|Cs<|c_cond_f rfl<|Ce<|Xe<|Xe<|Xo<|Xn ?_
 refine Cs<|Cr<|tS (sF rfl fld25_1)<|tS (sL 0 rfl one23 rfl rfl)<|tS (sE rfl sl23)<|mV rfl<|Te<|Cb ?_
 have be : m.Turns.length ≤ 9223372036854775807 := (FZ.bd (h7.le (a.trans c)))
 obtain ⟨bu, aK, n⟩ := bS hm
 refine lF (fun ai => fun _ => fun W e' hp' => [(70, sv A5 m.Turns c6), (71, iv ((m.Turns.length : Int))), (72, iv ((ai : Int)))] = e' ∧ R = hp' ∧ y.Le W) aK ⟨rfl, rfl, lr⟩ ?_ ?_
 rintro ai _ W _ _ bf a0 ⟨rfl, rfl, i⟩ r s
 unfold mPlanForm_L500 at r
 have hm := r
 refine Cr<|tS (lT rfl rfl (by omega))<|Te<|Cs<|c_cond_t rfl<|Ck<|Xn<|Cs<|Cb<|Cr ?_
 obtain ⟨bw, a1, bg, aL, bh, aM, ad, aN, ae, hm⟩ := bF (sz := 1) hm (h7.le (a.trans (c.trans i)))
 obtain ⟨bx, bz, rfl, bA⟩ := aM
 refine tS (sI a1 rfl rfl aL ae aN sl23)<|tS (sO rfl one49 (ad 0 _ rfl))<|aS rfl<|Te<|Cb<|Cr<|mV rfl<|tS (sE rfl sl49)<|tS (q1 rfl rfl)<|aS rfl ?_
 refine Te ?_
 refine cI hm rfl (fun hm => ?_) fun hm => ?_
 refine Cr<|aS rfl<|Te<|Ct<|Xb<|Xb<|Xr<|Xr<|Xb<|Xr ?_
 have aO := s _ (Option.some.inj hm).symm
 rw [aO] at n
 have hm := elimR n
 obtain rfl := o1 hm
 exact rO ⟨rfl, rfl⟩ (a.trans (c.trans i))
 refine Cr<|mV rfl<|tS (sE rfl sl49)<|tS (q5 rfl rfl)<|aS rfl<|Te ?_
 refine cI hm rfl (fun hm => ?_) fun hm => ?_
 refine Cr<|aS rfl<|Te<|Ct<|Xb<|Xb<|Xr<|Xr<|Xb<|Xr ?_
 have aP := s _ (Option.some.inj hm).symm
 rw [aP] at n
 have hm := elimR n
 obtain rfl := o1 hm
 exact rO ⟨rfl, rfl⟩ (a.trans (c.trans i))
 refine Ck<|Xm<|Xm<|Xn<|Cg<|tS (sa rfl rfl (by omega))<|mV rfl<|Tn ?_
 exact jM hm ⟨rfl, rfl, (i)⟩
 rintro _ W _ _ ⟨rfl, rfl, i⟩ aQ
 rw [aQ] at n
 have hm := elimL n
 refine Cr<|tS (lF rfl rfl (by omega))<|Te<|Cs<|c_cond_f rfl<|Ce<|Xe<|Xe<|Xo<|Xn ?_
 refine Cr<|aS rfl<|Te<|Ct ?_
 obtain rfl := o1 hm
 exact rO ⟨rfl, rfl⟩ (a.trans (c.trans i))

set_option maxRecDepth 20000 in
theorem cPlanWithin (b : Base) (R : Hp) (i j k d) (hm : mPlanWithin i j k = some d):
    CallsG Tryd.prog 100 [iv i, iv j, iv k] b (R) (fun v b' hp' => bv d = v ∧ R = hp') := by
 refine fE 15 Tryd.func100 rfl Tryd.ntmps100 rfl ?_
 unfold mPlanWithin at hm
 refine Cr<|aS rfl<|Te ?_
 obtain ⟨h, e, f⟩ := bS hm
 refine Cj (fun g e' hp' => [(6, bv h)] = e' ∧ R = hp' ∧ b.Le g) ?_ ?_
 have hm := e
 refine Cg<|mV rfl<|mV rfl ?_
 refine Tb rfl (q6 rfl rfl) (fun a => ?_) (fun a => ?_)
 rw [if_pos a] at hm
 refine mV rfl<|yS<|mV rfl<|yS<|mV rfl<|yS<|tS (q4 rfl rfl)<|tS (pT rfl rfl)<|aS rfl<|Tn ?_
 obtain rfl := o1 hm
 exact jJ ⟨rfl, rfl, lr⟩
 rw [if_neg a] at hm
 refine mV rfl<|nO<|nO<|nO<|tS (pF rfl rfl)<|aS rfl<|Tn ?_
 obtain rfl := o1 hm
 exact jJ ⟨rfl, rfl, lr⟩
 rintro g _ _ ⟨rfl, rfl, c⟩
 have hm := f
 refine Ct ?_
 obtain rfl := o1 hm
 exact rO ⟨rfl, rfl⟩ c

set_option maxRecDepth 20000 in
theorem cStrconvItoa (b : Base) (R : Hp) (hG : GOn GT b) (a c) (hm : mStrconvItoa a = some c):
    CallsG Tryd.prog 118 [iv a] b (R) (fun v b' hp' => .string (c) = v ∧ R = hp') := by
 unfold mStrconvItoa at hm
 exact itoa_c hG hm

set_option maxRecDepth 20000 in
theorem cPlanSentence (b : Base) (R : Hp) (hG : GOn GT b) (E p A B) (F : FZ rI b.w A B p) (q) (hm : mPlanSentence E p = some q):
    CallsG Tryd.prog 102 [.string (E), sv A p B] b (R) (fun v b' hp' => .string (q) = v ∧ R = hp') := by
 refine fE 21 Tryd.func102 rfl Tryd.ntmps102 rfl ?_
 unfold mPlanSentence at hm
 refine Cr<|aS rfl<|Te<|Cs<|Cr<|mV rfl<|tS (sE rfl sl49)<|mV rfl<|Te<|Cb ?_
 have G : p.length ≤ 9223372036854775807 := (FZ.bd F)
 obtain ⟨d, k, l⟩ := bS hm
 refine lS (fun j => fun d => fun e e' hp' => [(0, .string (d)), (7, sv A p B), (8, iv ((p.length : Int))), (9, iv ((j : Int)))] = e' ∧ R = hp' ∧ b.Le e) k ⟨rfl, rfl, lr⟩ ?_ ?_
 rintro j d e _ _ H z ⟨rfl, rfl, a⟩ c
 unfold mPlanSentence_L66 at c
 have hm := c
 refine Cr<|tS (lT rfl rfl (by omega))<|Te<|Cs<|c_cond_t rfl<|Ck<|Xn<|Cs<|Cb<|Cr ?_
 obtain ⟨r, s, C, m, D, n, f, o, g, hm⟩ := bF (sz := 1) hm (F.le a)
 obtain rfl := n
 refine tS (sI s rfl rfl m g o sl49)<|tS (sO rfl one3 (f 0 _ rfl))<|aS rfl<|Te<|Cg<|mV rfl<|mV rfl ?_
 obtain ⟨t, i, hm⟩ := bS hm
 refine tD (uW _ call118 rfl (fun w ho => cStrconvItoa _ [] ((hG.le a).old ho) r t i) (fun _ _ _ h => h.2.symm)) ?_
 rintro _ _ ⟨⟨_, rfl, _⟩, rfl⟩
 obtain ⟨I, u, hm⟩ := bS hm
 refine tS (st_sadd rfl rfl u) ?_
 obtain ⟨J, x, hm⟩ := bS hm
 refine tS (st_sadd rfl rfl x)<|aS rfl<|Tn<|Xm<|Xn<|Cg<|tS (sa rfl rfl (by omega))<|mV rfl<|Tn ?_
 obtain rfl := o1 hm
 exact jS ⟨rfl, rfl, (a)⟩
 rintro e _ _ ⟨rfl, rfl, a⟩
 have hm := l
 refine Cr<|tS (lF rfl rfl (by omega))<|Te<|Cs<|c_cond_f rfl<|Ce<|Xe<|Xe<|Xo<|Xn ?_
 refine Cr<|mV rfl ?_
 obtain ⟨K, y, hm⟩ := bS hm
 refine tS (st_sadd rfl rfl y)<|aS rfl<|Te<|Ct ?_
 obtain rfl := o1 hm
 exact rO ⟨rfl, rfl⟩ a

set_option maxRecDepth 20000 in
theorem cStringsBuilderWriteString (b : Base) (R : Hp) (g h f a) (i : OB 179 5 b.w f h a) (c d) (hm : mStringsBuilderWriteString g h = some (c, d)):
    CallsG Tryd.prog 101 [pb f, .string (g)] b ((a ++ R)) (fun v b' hp' => ∃ e, .tuple #[iv c, .nilIface] = v ∧ (e ++ R) = hp' ∧ OB 179 5 b'.w f d e) := by
 unfold mStringsBuilderWriteString at hm
 exact bwrite_c i hm

set_option maxRecDepth 20000 in
theorem cPlanText_1 (b : Base) (R : Hp) (hG : GOn GT b) (n I c A j H J e K g) (h5 : OS 3 (OT.fr rI) b.w (sv H c J) c e) (ab : (H = none ↔ c = [])) (h9 : OB 179 5 b.w K A g) (L O) (hm : mPlanText_1 n I c A = some (L, O)):
    CallsG Tryd.prog 99 [.string (n), sv H c J, pb j, pb K] b ((j, Cl 4 [bv I]) :: (e ++ (g ++ R))) (fun v b' hp' => ∃ x, .tuple #[] = v ∧ (j, Cl 4 [bv L]) :: (e ++ (x ++ R)) = hp' ∧ OB 179 5 b'.w K O x) := by
 refine fE 24 Tryd.func99 rfl Tryd.ntmps99 rfl ?_
 unfold mPlanText_1 at hm
 refine Cs<|Cr<|mV rfl<|tS (sE rfl sl49)<|mV rfl<|Te<|Cb ?_
 have ag : c.length ≤ 9223372036854775807 := (OS.len h5)
 refine c_front2 [_] e g R rfl<|c_front2 [_] g e R rfl ?_
 obtain ⟨i, B, C⟩ := bS hm
 refine lS (fun y => fun i => fun k e' hp' => [(0, .string (n)), (1, sv H c J), (2, pb j), (3, pb K), (8, sv H c J), (9, iv ((c.length : Int))), (10, iv ((y : Int)))] = e' ∧ (j, Cl 4 [bv i]) :: (e ++ (g ++ R)) = hp' ∧ b.Le k) B ⟨rfl, rfl, lr⟩ ?_ ?_
 rintro y i k _ _ ah Z ⟨rfl, rfl, a⟩ f
 unfold mPlanText_1_L96 at f
 have hm := f
 refine Cr<|tS (lT rfl rfl (by omega))<|Te<|Cs<|c_cond_t rfl<|Ck<|Xn<|Cs<|Cb<|Cr ?_
 obtain ⟨S, T, hm⟩ := bS hm
 obtain ⟨U, D, E⟩ := iS T
 obtain ⟨ac, ad, ai, aj, ae, F, p, G, q, af, aa⟩ := OS.get (sz := 1) rfl (by decide) (h5.le a) E
 obtain ⟨rfl, rfl⟩ := F
 refine tS (sI U rfl rfl D q G sl49)<|tS (st_load_rd rfl one3 (fun w ho => p w _ ho (.cons _ (List.sublist_append_left _ _)) 0 _ rfl))<|aS rfl<|Te<|Cg<|tS (sL 0 rfl one4 rfl rfl) ?_
 rcases Bool.eq_false_or_eq_true i with d | d
 rw [if_pos d] at hm
 refine Tr 14 rfl (v' := .bool true) (by rw [d] <;> rfl)<|mV rfl<|yS<|mV rfl<|yS ?_
 obtain ⟨V, r, hm⟩ := bS hm
 refine tD (uW _ call100 rfl (fun w ho => cPlanWithin _ [] S 0 999999 V r) (fun _ _ _ h => h.2.symm)) ?_
 rintro _ _ ⟨⟨_, rfl, _⟩, rfl⟩
 refine tS (pT rfl rfl)<|tD (uS 0 rfl rfl siz4 rfl rfl (by simp)) ?_
 rintro _ _ rfl
 refine Tn<|Xm<|Xn<|Cg<|tS (sa rfl rfl (by omega))<|mV rfl<|Tn ?_
 obtain rfl := o1 hm
 exact jS ⟨rfl, rfl, (a)⟩
 rw [if_neg (fun hh => Bool.noConfusion (hh.symm.trans d))] at hm
 refine Tr 14 rfl (v' := .bool false) (by rw [d] <;> rfl)<|mV rfl<|nO<|nO<|tS (pF rfl rfl)<|tD (uS 0 rfl rfl siz4 rfl rfl (by simp)) ?_
 rintro _ _ rfl
 refine Tn<|Xm<|Xn<|Cg<|tS (sa rfl rfl (by omega))<|mV rfl<|Tn ?_
 obtain rfl := o1 hm
 exact jS ⟨rfl, rfl, (a)⟩
 rintro k _ _ ⟨rfl, rfl, a⟩
 have hm := C
 refine Cr<|tS (lF rfl rfl (by omega))<|Te<|Cs<|c_cond_f rfl<|Ce<|Xe<|Xe<|Xo<|Xn ?_
 refine Cg<|mV rfl<|mV rfl ?_
 obtain ⟨z, s, hm⟩ := bS hm
 refine tD (uW _ call102 rfl (fun w ho => cPlanSentence _ [] ((hG.le a).old ho) n c H J (OS.now (o := (OT.fr rI)) (l := c) (hs := e) (h5.le a) ho (.cons _ (List.sublist_append_left _ _))) z s) (fun _ _ _ h => h.2.symm)) ?_
 rintro _ _ ⟨⟨_, rfl, _⟩, rfl⟩
 obtain ⟨⟨W, X⟩, t, hm⟩ := bS hm
 have hm := (unc2E hm)
 refine t_front2 [_] e g R rfl<|t_out1 [] [_] g (e ++ R) rfl<|Tg _ rfl call101 rfl (cStringsBuilderWriteString _ _ z A K g (h9.le a) W X t) ?_
 rintro _ ak _ u ⟨m, rfl, rfl, Y⟩
 refine t_in1 [] [_] m (e ++ R) rfl<|Tn ?_
 obtain ⟨rfl, rfl⟩ := some2 hm
 exact eZ ⟨m, rfl, rfl, Y⟩ (a.trans u)

set_option maxRecDepth 20000 in
theorem cPlanText_1_2 (b : Base) (R : Hp) (hG : GOn GT b) (T e B t C D E F g) (V : FZ rI b.w D E e) (h4 : OB 179 5 b.w F t g) (G H) (hm : mPlanText_1_2 T e B t = some (G, H)):
    CallsG Tryd.prog 99 [.string (T), sv D e E, pb C, pb F] b ((C, Cl 4 [bv B]) :: (g ++ R)) (fun v b' hp' => ∃ q, .tuple #[] = v ∧ (C, Cl 4 [bv G]) :: (q ++ R) = hp' ∧ OB 179 5 b'.w F H q) := by
 refine fE 24 Tryd.func99 rfl Tryd.ntmps99 rfl ?_
 unfold mPlanText_1_2 at hm
 refine Cs<|Cr<|mV rfl<|tS (sE rfl sl49)<|mV rfl<|Te<|Cb ?_
 have Y : e.length ≤ 9223372036854775807 := (FZ.bd V)
 obtain ⟨f, u, x⟩ := bS hm
 refine lS (fun r => fun f => fun i e' hp' => [(0, .string (T)), (1, sv D e E), (2, pb C), (3, pb F), (8, sv D e E), (9, iv ((e.length : Int))), (10, iv ((r : Int)))] = e' ∧ (C, Cl 4 [bv f]) :: (g ++ R) = hp' ∧ b.Le i) u ⟨rfl, rfl, lr⟩ ?_ ?_
 rintro r f i _ _ Z U ⟨rfl, rfl, a⟩ d
 unfold mPlanText_1_2_L75 at d
 have hm := d
 refine Cr<|tS (lT rfl rfl (by omega))<|Te<|Cs<|c_cond_t rfl<|Ck<|Xn<|Cs<|Cb<|Cr ?_
 obtain ⟨I, J, W, y, X, z, k, A, l, hm⟩ := bF (sz := 1) hm (V.le a)
 obtain rfl := z
 refine tS (sI J rfl rfl y l A sl49)<|tS (sO rfl one3 (k 0 _ rfl))<|aS rfl<|Te<|Cg<|tS (sL 0 rfl one4 rfl rfl) ?_
 rcases Bool.eq_false_or_eq_true f with c | c
 rw [if_pos c] at hm
 refine Tr 14 rfl (v' := .bool true) (by rw [c] <;> rfl)<|mV rfl<|yS<|mV rfl<|yS ?_
 obtain ⟨K, m, hm⟩ := bS hm
 refine tD (uW _ call100 rfl (fun w ho => cPlanWithin _ [] I 0 999999 K m) (fun _ _ _ h => h.2.symm)) ?_
 rintro _ _ ⟨⟨_, rfl, _⟩, rfl⟩
 refine tS (pT rfl rfl)<|tD (uS 0 rfl rfl siz4 rfl rfl (by simp)) ?_
 rintro _ _ rfl
 refine Tn<|Xm<|Xn<|Cg<|tS (sa rfl rfl (by omega))<|mV rfl<|Tn ?_
 obtain rfl := o1 hm
 exact jS ⟨rfl, rfl, (a)⟩
 rw [if_neg (fun hh => Bool.noConfusion (hh.symm.trans c))] at hm
 refine Tr 14 rfl (v' := .bool false) (by rw [c] <;> rfl)<|mV rfl<|nO<|nO<|tS (pF rfl rfl)<|tD (uS 0 rfl rfl siz4 rfl rfl (by simp)) ?_
 rintro _ _ rfl
 refine Tn<|Xm<|Xn<|Cg<|tS (sa rfl rfl (by omega))<|mV rfl<|Tn ?_
 obtain rfl := o1 hm
 exact jS ⟨rfl, rfl, (a)⟩
 rintro i _ _ ⟨rfl, rfl, a⟩
 have hm := x
 refine Cr<|tS (lF rfl rfl (by omega))<|Te<|Cs<|c_cond_f rfl<|Ce<|Xe<|Xe<|Xo<|Xn ?_
 refine Cg<|mV rfl<|mV rfl ?_
 obtain ⟨s, n, hm⟩ := bS hm
 refine tD (uW _ call102 rfl (fun w ho => cPlanSentence _ [] ((hG.le a).old ho) T e D E ((V.le a).old ho) s n) (fun _ _ _ h => h.2.symm)) ?_
 rintro _ _ ⟨⟨_, rfl, _⟩, rfl⟩
 obtain ⟨⟨L, O⟩, o, hm⟩ := bS hm
 have hm := (unc2E hm)
 refine t_out1 [] [_] g R rfl<|Tg _ rfl call101 rfl (cStringsBuilderWriteString _ _ s t F g (h4.le a) L O o) ?_
 rintro _ aa _ p ⟨j, rfl, rfl, S⟩
 refine t_in1 [] [_] j R rfl<|Tn ?_
 obtain ⟨rfl, rfl⟩ := some2 hm
 exact eZ ⟨j, rfl, rfl, S⟩ (a.trans p)

set_option maxRecDepth 20000 in
theorem cStringsBuilderString (b : Base) (R : Hp) (c d a) (f : OB 179 5 b.w d c a) (e) (hm : mStringsBuilderString c = some e):
    CallsG Tryd.prog 103 [pb d] b ((a ++ R)) (fun v b' hp' => .string (e) = v ∧ R = hp') := by
 unfold mStringsBuilderString at hm
 exact bstring_c f hm

set_option maxRecDepth 20000 in
theorem cPlanText (b : Base) (R : Hp) (hG : GOn GT b) (C : ApiDay) (A2 c3 A5 c6) (h4 : FZ rApiTrain b.w A2 c3 C.Trains) (h7 : FZ (RT.list rI) b.w A5 c6 C.Turns) (a7 a8) (hm : mPlanText C = some (a7, a8)):
    CallsG Tryd.prog 85 [.agg #[sv A2 C.Trains c3, sv A5 C.Turns c6]] b (R) (fun v b' hp' => .tuple #[.string (a7), iv a8] = v ∧ R = hp') := by
 refine fE 81 Tryd.func85 rfl Tryd.ntmps85 rfl ?_
 unfold mPlanText at hm
 refine Cr<|tD (uB _ rfl rfl) ?_
 rintro _ _ ⟨D, rfl, rfl⟩
 refine aS rfl<|aS rfl<|Te<|Cs<|Cr<|tS (sD (vs := [_, _]) 0 2 rfl agg25 rfl rfl rfl) ?_
 obtain ⟨bB, aN, hm⟩ := bS hm
 refine tD (uW _ call98 rfl (fun w ho => cPlanForm _ [] C A2 c3 A5 c6 (h4.old ho) (h7.old ho) bB aN) (fun _ _ _ h => h.2.symm)) ?_
 rintro _ _ ⟨⟨_, rfl, _⟩, rfl⟩
 refine aS rfl<|Te<|Cr<|mV rfl<|tS (q2 rfl rfl)<|Te ?_
 refine cI hm rfl (fun hm => ?_) fun hm => ?_
 refine Cr<|mV rfl<|aS rfl<|aS rfl<|Te<|Ct<|Xr ?_
 obtain ⟨rfl, rfl⟩ := some2 hm
 exact rT ⟨rfl, rfl⟩ lr
 refine Ck<|Xn<|Cr<|tD (u_balloc 5 [_] R rfl zero179 rfl) ?_
 rintro _ _ ⟨e, a9, rfl, rfl, bC⟩
 refine Te<|Cr<|tD (uA [.bool false] zero4 rfl) ?_
 rintro _ _ ⟨f, rfl, rfl⟩
 refine tD (uS 0 rfl rfl siz4 rfl rfl (by simp)) ?_
 rintro _ _ rfl
 refine Te<|Cr<|tS (st_func _ _ rfl rfl)<|aS rfl<|Te<|Cs<|Cr<|tS (sF rfl fld25_0)<|tS (sL 1 rfl one22 rfl rfl)<|tS (sE rfl sl22) ?_
 refine mV rfl<|Te<|Cb ?_
 have bU : C.Trains.length ≤ 9223372036854775807 := (FZ.bd h4)
 refine Cp 1 rfl ?_
 obtain ⟨⟨E, F⟩, aO, aP⟩ := bS hm
 refine lS (fun G => unc2 fun E F => fun s e' hp' => ∃ g, [(1, pb D), (5, pb e), (6, pb f), (7, .func (.func 99) #[] #[pb f, pb e]), (23, sv A2 C.Trains c3), (24, iv ((C.Trains.length : Int))), (25, iv ((G : Int)))] = e' ∧ (D, Cl 25 [sv A2 C.Trains c3, sv A5 C.Turns c6]) :: (f, Cl 4 [bv E]) :: (g ++ R) = hp' ∧ b.Le s ∧ OB 179 5 s.w e F g) aO ⟨a9, rfl, rfl, lr, bC⟩ ?_ ?_
 rintro G ⟨E, F⟩ s _ _ bV bD ⟨g, rfl, rfl, d, U⟩ A
 unfold mPlanText_L677 at A
 have hm := (unc2E A)
 refine Cr<|tS (lT rfl rfl (by omega))<|Te<|Cs<|c_cond_t rfl<|Ck<|Xn<|Cs<|Cb<|Cr ?_
 obtain ⟨c, ba, bE, aQ, bG, aR, ah, ac, ai, hm⟩ := bF (sz := 4) hm (h4.le d)
 obtain ⟨_, _, rfl, rfl, ⟨_, _, rfl, rfl, ⟨_, _, rfl, ⟨V, W, rfl, aj⟩, ⟨X, Y, rfl, ak⟩⟩⟩⟩ := aR
 refine tS (sI ba rfl rfl aQ ai ac sl22)<|tS (sP (vs := [iv c.No, iv c.Stock, sv V c.Stops W, sv X c.Legs Y]) 4 rfl agg47 ac rfl (fun j u hu => ah j u hu))<|tD (uA [iv 0, iv 0, sn, sn] zero47 rfl) ?_
 rintro _ _ ⟨al, rfl, rfl⟩
 refine tD (uN (vs := [_, _, _, _]) 0 4 rfl rfl rfl siz47 rfl (mc rfl (mc rfl (mc rfl (mc rfl mn)))) rfl (by simp)) ?_
 rintro _ _ rfl
 refine Te<|Cr<|mV rfl<|tS (sF rfl fld47_0)<|tS (sL 0 rfl one3 rfl rfl)<|tS (sF rfl fld47_1)<|tS (sL 0 rfl one3 rfl rfl)<|tD (u_bslice (el := 3) [(0, iv c.No), (1, iv c.Stock)] [iv c.No, iv c.Stock] rfl (fun _ => by kernel_rfl)) ?_
 rintro _ _ ⟨n, rfl, rfl⟩
 refine t_seg 0 [_, _, _] (g ++ R) rfl rfl ?_
 have bb : OS 3 (OT.fr rI) s.w (.slice (some ⟨n, 0, none⟩) 2 2) [c.No, c.Stock] [(n, Cl 3 [iv c.No, iv c.Stock])] := OS.lit [[iv c.No], [iv c.Stock]] rfl ⟨rfl, ⟨rfl, trivial⟩⟩ rfl (by decide)
 obtain ⟨⟨bc, bd⟩, am, hm⟩ := bS hm
 have hm := (unc2E hm)
 refine t_pullb 2 rfl<|t_front2 [_, _, _] [(n, Cl 3 [iv c.No, iv c.Stock])] g R rfl<|t_front2 [_, _, _] g [(n, Cl 3 [iv c.No, iv c.Stock])] R rfl<|t_out2 [_] [_, _] [(n, Cl 3 [iv c.No, iv c.Stock])] g R rfl<|Tv #[] #[pb f, pb e] [.string ((ByteArray.mk #[116, 114, 97, 105, 110])), .slice (some ⟨n, 0, none⟩) ([c.No, c.Stock]).length 2] rfl rfl call99 rfl (cPlanText_1 _ _ (hG.le d) (ByteArray.mk #[116, 114, 97, 105, 110]) E [c.No, c.Stock] F f (some ⟨n, 0, none⟩) 2 [(n, Cl 3 [iv c.No, iv c.Stock])] e g bb ⟨nofun, nofun⟩ U bc bd am) ?_
 rintro _ be _ l ⟨H, rfl, rfl, bf⟩
 refine t_in2 [_] [_, _] [(n, Cl 3 [iv c.No, iv c.Stock])] H R rfl<|Te<|Cs<|Cr<|tS (sF rfl fld47_2)<|tS (sL 1 rfl one45 rfl rfl)<|tS (sE rfl sl45)<|mV rfl<|Te<|Cb ?_
 have bH : c.Stops.length ≤ 9223372036854775807 := (FZ.bd (aj.le l))
 refine Cp 1 rfl<|Cp 1 rfl<|Cp 2 rfl<|c_front2 [_, _, _] [(n, Cl 3 [iv c.No, iv c.Stock])] H R rfl ?_
 obtain ⟨⟨I, J⟩, aT, aU⟩ := bS hm
 refine lS (fun an => unc2 fun I J => fun t e' hp' => ∃ i, [(1, pb D), (5, pb e), (6, pb f), (7, .func (.func 99) #[] #[pb f, pb e]), (9, pb al), (23, sv A2 C.Trains c3), (24, iv ((C.Trains.length : Int))), (25, iv ((G : Int))), (37, sv V c.Stops W), (38, iv ((c.Stops.length : Int))), (39, iv ((an : Int)))] = e' ∧ (D, Cl 25 [sv A2 C.Trains c3, sv A5 C.Turns c6]) :: (f, Cl 4 [bv I]) :: (al, Cl 47 [iv c.No, iv c.Stock, sv V c.Stops W, sv X c.Legs Y]) :: (i ++ R) = hp' ∧ be.Le t ∧ OB 179 5 t.w e J i) aT ⟨H, rfl, rfl, lr, bf⟩ ?_ ?_
 rintro an ⟨I, J⟩ t _ _ bI bx ⟨i, rfl, rfl, k, Z⟩ x
 unfold mPlanText_L1089 at x
 have hm := (unc2E x)
 refine Cr<|tS (lT rfl rfl (by omega))<|Te<|Cs<|c_cond_t rfl<|Ck<|Xn<|Cs<|Cb<|Cr ?_
 obtain ⟨a, bg, bJ, aV, bK, aW, ao, ad, aq, hm⟩ := bF (sz := 4) hm (aj.le (l.trans k))
 obtain ⟨_, _, rfl, rfl, ⟨_, _, rfl, rfl, ⟨_, _, rfl, rfl, rfl⟩⟩⟩ := aW
 refine tS (sI bg rfl rfl aV aq ad sl45)<|tS (sP (vs := [iv a.Station, iv a.Track, iv a.Arr, iv a.Dep]) 4 rfl agg83 ad rfl (fun j u hu => ao j u hu))<|tD (uA [iv 0, iv 0, iv 0, iv 0] zero83 rfl) ?_
 rintro _ _ ⟨bW, rfl, rfl⟩
 refine tD (uN (vs := [_, _, _, _]) 0 4 rfl rfl rfl siz83 rfl (mc rfl (mc rfl (mc rfl (mc rfl mn)))) rfl (by simp)) ?_
 rintro _ _ rfl
 refine Te<|Cg<|mV rfl<|tS (sF rfl fld83_0)<|tS (sL 0 rfl one3 rfl rfl)<|tS (sF rfl fld83_1)<|tS (sL 0 rfl one3 rfl rfl)<|tS (sF rfl fld83_2)<|tS (sL 0 rfl one3 rfl rfl)<|tS (sF rfl fld83_3) ?_
 refine tS (sL 0 rfl one3 rfl rfl)<|tD (u_bslice (el := 3) [(0, iv a.Station), (1, iv a.Track), (2, iv a.Arr), (3, iv a.Dep)] [iv a.Station, iv a.Track, iv a.Arr, iv a.Dep] rfl (fun _ => by kernel_rfl)) ?_
 rintro _ _ ⟨p, rfl, rfl⟩
 refine t_seg 0 [_, _, _, _] (i ++ R) rfl rfl ?_
 have bh : OS 3 (OT.fr rI) t.w (.slice (some ⟨p, 0, none⟩) 4 4) [a.Station, a.Track, a.Arr, a.Dep] [(p, Cl 3 [iv a.Station, iv a.Track, iv a.Arr, iv a.Dep])] := OS.lit [[iv a.Station], [iv a.Track], [iv a.Arr], [iv a.Dep]] rfl ⟨rfl, ⟨rfl, ⟨rfl, ⟨rfl, trivial⟩⟩⟩⟩ rfl (by decide)
 obtain ⟨⟨bi, bj⟩, ar, hm⟩ := bS hm
 have hm := (unc2E hm)
 refine t_pullb 2 rfl<|t_front2 [_, _, _, _] [(p, Cl 3 [iv a.Station, iv a.Track, iv a.Arr, iv a.Dep])] i R rfl<|t_front2 [_, _, _, _] i [(p, Cl 3 [iv a.Station, iv a.Track, iv a.Arr, iv a.Dep])] R rfl<|t_out2 [_] [_, _, _] [(p, Cl 3 [iv a.Station, iv a.Track, iv a.Arr, iv a.Dep])] i R rfl<|Tv #[] #[pb f, pb e] [.string ((ByteArray.mk #[115, 116, 111, 112])), .slice (some ⟨p, 0, none⟩) ([a.Station, a.Track, a.Arr, a.Dep]).length 4] rfl rfl call99 rfl (cPlanText_1 _ _ (hG.le (d.trans (l.trans k))) (ByteArray.mk #[115, 116, 111, 112]) I [a.Station, a.Track, a.Arr, a.Dep] J f (some ⟨p, 0, none⟩) 4 [(p, Cl 3 [iv a.Station, iv a.Track, iv a.Arr, iv a.Dep])] e i bh ⟨nofun, nofun⟩ Z bi bj ar) ?_
 rintro _ bX _ au ⟨ae, rfl, rfl, bk⟩
 refine t_in2 [_] [_, _, _] [(p, Cl 3 [iv a.Station, iv a.Track, iv a.Arr, iv a.Dep])] ae R rfl<|Tn<|Xm<|Xn<|Cg<|tS (sa rfl rfl (by omega))<|mV rfl<|Tn ?_
 obtain rfl := o1 hm
 exact jS ⟨ae, rfl, rfl, ((k.trans au)), bk⟩
 rintro t _ _ ⟨i, rfl, rfl, k, Z⟩
 have hm := (unc2E aU)
 refine Cr<|tS (lF rfl rfl (by omega))<|Te<|Cs<|c_cond_f rfl<|Ce<|Xe<|Xe<|Xo<|Xn ?_
 refine Cr<|tS (sF rfl fld47_3)<|tS (sL 2 rfl one23 rfl rfl)<|tS (sE rfl sl23)<|mV rfl<|Te<|Cb ?_
 have bL : c.Legs.length ≤ 9223372036854775807 := (FZ.bd (ak.le (l.trans k)))
 refine Cp 1 rfl<|Cp 1 rfl ?_
 obtain ⟨⟨K, L⟩, aX, aY⟩ := bS hm
 refine lS (fun av => unc2 fun K L => fun O e' hp' => ∃ q, [(1, pb D), (5, pb e), (6, pb f), (7, .func (.func 99) #[] #[pb f, pb e]), (23, sv A2 C.Trains c3), (24, iv ((C.Trains.length : Int))), (25, iv ((G : Int))), (56, sv X c.Legs Y), (57, iv ((c.Legs.length : Int))), (58, iv ((av : Int)))] = e' ∧ (D, Cl 25 [sv A2 C.Trains c3, sv A5 C.Turns c6]) :: (f, Cl 4 [bv K]) :: (q ++ R) = hp' ∧ t.Le O ∧ OB 179 5 O.w e L q) aX ⟨i, rfl, rfl, lr, Z⟩ ?_ ?_
 rintro av ⟨K, L⟩ O _ _ bM bz ⟨q, rfl, rfl, r, aa⟩ y
 unfold mPlanText_L1169 at y
 have hm := (unc2E y)
 refine Cr<|tS (lT rfl rfl (by omega))<|Te<|Cs<|c_cond_t rfl<|Ck<|Xn<|Cs<|Cb<|Cr ?_
 obtain ⟨aw, bl, bN, aZ, bO, a0, ax, a1, ay, hm⟩ := bF (sz := 1) hm (ak.le (l.trans (k.trans r)))
 obtain ⟨az, aA, rfl, bm⟩ := a0
 refine tS (sI bl rfl rfl aZ ay a1 sl23)<|tS (sO rfl one49 (ax 0 _ rfl))<|aS rfl<|Te<|Cg<|mV rfl<|mV rfl ?_
 obtain ⟨⟨bn, bo⟩, aB, hm⟩ := bS hm
 have hm := (unc2E hm)
 refine t_pullb 1 rfl<|t_out1 [_] [_] q R rfl<|Tv #[] #[pb f, pb e] [.string ((ByteArray.mk #[108, 101, 103])), sv az aw aA] rfl rfl call99 rfl (cPlanText_1_2 _ _ (hG.le (d.trans (l.trans (k.trans r)))) (ByteArray.mk #[108, 101, 103]) aw K L f az aA e q bm aa bn bo aB) ?_
 rintro _ bY _ aC ⟨af, rfl, rfl, bp⟩
 refine t_in1 [_] [_] af R rfl<|Tn<|Xm<|Xn<|Cg<|tS (sa rfl rfl (by omega))<|mV rfl<|Tn ?_
 obtain rfl := o1 hm
 exact jS ⟨af, rfl, rfl, ((r.trans aC)), bp⟩
 rintro O _ _ ⟨q, rfl, rfl, r, aa⟩
 have hm := (unc2E aY)
 refine Cr<|tS (lF rfl rfl (by omega))<|Te<|Cs<|c_cond_f rfl<|Ce<|Xe<|Xe<|Xo<|Xm ?_
 refine Xn<|Cg<|tS (sa rfl rfl (by omega))<|mV rfl<|Tn ?_
 obtain rfl := o1 hm
 exact jS ⟨q, rfl, rfl, ((d.trans (l.trans (k.trans r)))), aa⟩
 rintro s _ _ ⟨g, rfl, rfl, d, U⟩
 have hm := (unc2E aP)
 refine Cr<|tS (lF rfl rfl (by omega))<|Te<|Cs<|c_cond_f rfl<|Ce<|Xe<|Xe<|Xo<|Xn ?_
 refine Cs<|Cr<|tS (sF rfl fld25_1)<|tS (sL 0 rfl one23 rfl rfl)<|tS (sE rfl sl23)<|mV rfl<|Te<|Cb ?_
 have bP : C.Turns.length ≤ 9223372036854775807 := (FZ.bd (h7.le d))
 refine Cp 1 rfl ?_
 obtain ⟨⟨S, B⟩, a2, a3⟩ := bS hm
 refine lS (fun aD => unc2 fun S B => fun T e' hp' => ∃ m, [(5, pb e), (6, pb f), (7, .func (.func 99) #[] #[pb f, pb e]), (68, sv A5 C.Turns c6), (69, iv ((C.Turns.length : Int))), (70, iv ((aD : Int)))] = e' ∧ (f, Cl 4 [bv S]) :: (m ++ R) = hp' ∧ s.Le T ∧ OB 179 5 T.w e B m) a2 ⟨g, rfl, rfl, lr, U⟩ ?_ ?_
 rintro aD ⟨S, B⟩ T _ _ bQ bA ⟨m, rfl, rfl, o, ab⟩ z
 unfold mPlanText_L1246 at z
 have hm := (unc2E z)
 refine Cr<|tS (lT rfl rfl (by omega))<|Te<|Cs<|c_cond_t rfl<|Ck<|Xn<|Cs<|Cb<|Cr ?_
 obtain ⟨aE, bq, bR, a4, bT, a5, aF, a6, aG, hm⟩ := bF (sz := 1) hm (h7.le (d.trans o))
 obtain ⟨aH, aI, rfl, br⟩ := a5
 refine tS (sI bq rfl rfl a4 aG a6 sl23)<|tS (sO rfl one49 (aF 0 _ rfl))<|aS rfl<|Te<|Cg<|mV rfl<|mV rfl ?_
 obtain ⟨⟨bs, bt⟩, aJ, hm⟩ := bS hm
 have hm := (unc2E hm)
 refine t_out1 [_] [] m R rfl<|Tv #[] #[pb f, pb e] [.string ((ByteArray.mk #[116, 117, 114, 110])), sv aH aE aI] rfl rfl call99 rfl (cPlanText_1_2 _ _ (hG.le (d.trans o)) (ByteArray.mk #[116, 117, 114, 110]) aE S B f aH aI e m br ab bs bt aJ) ?_
 rintro _ bZ _ aK ⟨ag, rfl, rfl, bu⟩
 refine t_in1 [_] [] ag R rfl<|Tn<|Xm<|Xn<|Cg<|tS (sa rfl rfl (by omega))<|mV rfl<|Tn ?_
 obtain rfl := o1 hm
 exact jS ⟨ag, rfl, rfl, ((o.trans aK)), bu⟩
 rintro T _ _ ⟨m, rfl, rfl, o, ab⟩
 have hm := (unc2E a3)
 refine Cr<|tS (lF rfl rfl (by omega))<|Te<|Cs<|c_cond_f rfl<|Ce<|Xe<|Xe<|Xo<|Xn ?_
 refine Cs<|Cr<|tS (sL 0 rfl one4 rfl rfl)<|tS (sn2 rfl)<|Te ?_
 refine cM hm rfl (fun hm => ?_) fun hm => ?_
 refine Cr<|aS rfl<|aS rfl<|Te<|Ct<|Xr ?_
 obtain ⟨rfl, rfl⟩ := some2 hm
 exact rT ⟨rfl, rfl⟩ (d.trans o)
 refine Ck<|Xn<|Cr ?_
 obtain ⟨bw, aL, hm⟩ := bS hm
 refine t_out1 [] [_] m R rfl<|Tg _ rfl call103 rfl (cStringsBuilderString _ _ B e m ab bw aL) ?_
 rintro _ b0 _ aM ⟨rfl, rfl⟩
 refine aS rfl<|aS rfl<|Te<|Ct ?_
 obtain ⟨rfl, rfl⟩ := some2 hm
 exact rT ⟨rfl, rfl⟩ (d.trans (o.trans aM))

set_option maxRecDepth 20000 in
theorem cGuideWithin (b : Base) (R : Hp) (i j k d) (hm : mGuideWithin i j k = some d):
    CallsG Tryd.prog 50 [iv i, iv j, iv k] b (R) (fun v b' hp' => bv d = v ∧ R = hp') := by
 refine fE 15 Tryd.func50 rfl Tryd.ntmps50 rfl ?_
 unfold mGuideWithin at hm
 refine Cr<|aS rfl<|Te ?_
 obtain ⟨h, e, f⟩ := bS hm
 refine Cj (fun g e' hp' => [(6, bv h)] = e' ∧ R = hp' ∧ b.Le g) ?_ ?_
 have hm := e
 refine Cg<|mV rfl<|mV rfl ?_
 refine Tb rfl (q6 rfl rfl) (fun a => ?_) (fun a => ?_)
 rw [if_pos a] at hm
 refine mV rfl<|yS<|mV rfl<|yS<|mV rfl<|yS<|tS (q4 rfl rfl)<|tS (pT rfl rfl)<|aS rfl<|Tn ?_
 obtain rfl := o1 hm
 exact jJ ⟨rfl, rfl, lr⟩
 rw [if_neg a] at hm
 refine mV rfl<|nO<|nO<|nO<|tS (pF rfl rfl)<|aS rfl<|Tn ?_
 obtain rfl := o1 hm
 exact jJ ⟨rfl, rfl, lr⟩
 rintro g _ _ ⟨rfl, rfl, c⟩
 have hm := f
 refine Ct ?_
 obtain rfl := o1 hm
 exact rO ⟨rfl, rfl⟩ c

set_option maxRecDepth 20000 in
theorem cGuideCheck (b : Base) (R : Hp) (hG : GOn GT b) (K : ApiDay) (A2 c3 A5 c6) (h4 : FZ rApiTrain b.w A2 c3 K.Trains) (h7 : FZ (RT.list rI) b.w A5 c6 K.Turns) (aQ) (hm : mGuideCheck K = some aQ):
    CallsG Tryd.prog 57 [.agg #[sv A2 K.Trains c3, sv A5 K.Turns c6]] b (R) (fun v b' hp' => iv aQ = v ∧ R = hp') := by
 refine fE 93 Tryd.func57 rfl Tryd.ntmps57 rfl ?_
 unfold mGuideCheck at hm
 refine Cr<|tD (uB _ rfl rfl) ?_
 rintro _ _ ⟨bm, rfl, rfl⟩
 refine aS rfl<|Te<|Cs<|Cr<|tS (sD (vs := [_, _]) 0 2 rfl agg25 rfl rfl rfl) ?_
 obtain ⟨⟨a5, a6⟩, ao, hm⟩ := bS hm
 have hm := (unc2E hm)
 refine tD (uW _ call85 rfl (fun w ho => cPlanText _ [] ((hG.le lr).old ho) K A2 c3 A5 c6 (h4.old ho) (h7.old ho) a5 a6 ao) (fun _ _ _ h => h.2.symm)) ?_
 rintro _ _ ⟨⟨_, rfl, _⟩, rfl⟩
 refine mV rfl<|tS (st_extract rfl rfl)<|tS (st_extract rfl rfl)<|aS rfl<|aS rfl<|Te<|Cr<|mV rfl<|tS (q2 rfl rfl)<|Te ?_
 refine cI hm rfl (fun hm => ?_) fun hm => ?_
 refine Cr<|mV rfl<|aS rfl<|Te<|Ct<|Xr ?_
 obtain rfl := o1 hm
 exact rO ⟨rfl, rfl⟩ lr
 refine Ck<|Xn<|Cr<|tD (u_mmap rI (OT.fr RT.bool) false false [_] R rfl) ?_
 rintro _ _ ⟨I, aR, rfl, rfl, a7⟩
 refine aS rfl<|Te<|Cs<|Cr<|tS (sF rfl fld25_0)<|tS (sL 0 rfl one22 rfl rfl)<|tS (sE rfl sl22)<|mV rfl<|Te<|Cb ?_
 have bg : K.Trains.length ≤ 9223372036854775807 := (FZ.bd h4)
 obtain ⟨bh, aq, c⟩ := bS hm
 refine lF (fun B => fun L => fun C e' hp' => ∃ x, [(5, .map (some I)), (20, sv A2 K.Trains c3), (21, iv ((K.Trains.length : Int))), (22, iv ((B : Int)))] = e' ∧ (x ++ R) = hp' ∧ b.Le C ∧ OM rI (OT.fr RT.bool) false false C.w I L x) aq ⟨aR, rfl, rfl, lr, a7⟩ ?_ ?_
 rintro B L C _ _ bi a8 ⟨x, rfl, rfl, d, O⟩ D g
 unfold mGuideCheck_L703 at D
 have hm := D
 refine Cr<|tS (lT rfl rfl (by omega))<|Te<|Cs<|c_cond_t rfl<|Ck<|Xn<|Cs<|Cb<|Cr ?_
 obtain ⟨a, aT, a9, ar, ba, au, Y, V, Z, hm⟩ := bF (sz := 4) hm (h4.le d)
 obtain ⟨_, _, rfl, rfl, ⟨_, _, rfl, rfl, ⟨_, _, rfl, ⟨l, m, rfl, S⟩, ⟨F, G, rfl, bj⟩⟩⟩⟩ := au
 refine tS (sI aT rfl rfl ar Z V sl22)<|tS (sP (vs := [iv a.No, iv a.Stock, sv l a.Stops m, sv F a.Legs G]) 4 rfl agg47 V rfl (fun j u hu => Y j u hu))<|tD (uA [iv 0, iv 0, sn, sn] zero47 rfl) ?_
 rintro _ _ ⟨r, rfl, rfl⟩
 refine tD (uN (vs := [_, _, _, _]) 0 4 rfl rfl rfl siz47 rfl (mc rfl (mc rfl (mc rfl (mc rfl mn)))) rfl (by simp)) ?_
 rintro _ _ rfl
 refine Te<|Cs<|Cb<|Cr<|tS (sF rfl fld47_0)<|tS (sL 0 rfl one3 rfl rfl) ?_
 obtain ⟨aU, aa, hm⟩ := bS hm
 refine tD (uW _ call50 rfl (fun w ho => cGuideWithin _ [] a.No 1 9999 aU aa) (fun _ _ _ h => h.2.symm)) ?_
 rintro _ _ ⟨⟨_, rfl, _⟩, rfl⟩
 refine tS (sn2 rfl)<|aS rfl<|Te ?_
 refine cM hm rfl (fun hm => ?_) fun hm => ?_
 refine Cr<|aS rfl<|Te<|Ct<|Xb<|Xr<|Xb<|Xr<|Xr<|Xb ?_
 refine Xr ?_
 have av := g _ (Option.some.inj hm).symm
 rw [av] at c
 have hm := elimR c
 obtain rfl := o1 hm
 exact rO ⟨rfl, rfl⟩ d
 refine Cr<|mV rfl<|tS (sF rfl fld47_0)<|tS (sL 0 rfl one3 rfl rfl) ?_
 obtain ⟨ab, aV, hm⟩ := bS hm
 have aw := Option.some.inj aV
 obtain ⟨ac, y, ax⟩ := OM.lookF kok3 (z0 := false) O (key := iv a.No) (k := a.No) rfl mapt156 zero4 rfl
 rw [aw] at y
 obtain rfl : ac = bv ab := by have y : [ac] = [bv ab] := y; injection y
 refine tS (st_mlook (ok := false) rfl rfl (fun w ho => ax _ w ho (.cons _ (List.sublist_append_left _ _)) false))<|aS rfl<|Te ?_
 refine cB hm rfl (fun hm => ?_) fun hm => ?_
 refine Cr<|aS rfl<|Te<|Ct<|Xb<|Xr<|Xb<|Xr<|Xr<|Xb ?_
 refine Xr ?_
 have ay := g _ (Option.some.inj hm).symm
 rw [ay] at c
 have hm := elimR c
 obtain rfl := o1 hm
 exact rO ⟨rfl, rfl⟩ d
 refine Cr<|tS (sF rfl fld47_2)<|tS (sL 0 rfl one45 rfl rfl)<|tS (sE rfl sl45)<|tS (q3 rfl rfl)<|aS rfl<|Te ?_
 refine cI hm rfl (fun hm => ?_) fun hm => ?_
 refine Cr<|aS rfl<|Te<|Ct<|Xb<|Xr<|Xb<|Xr<|Xr<|Xb ?_
 refine Xr ?_
 have az := g _ (Option.some.inj hm).symm
 rw [az] at c
 have hm := elimR c
 obtain rfl := o1 hm
 exact rO ⟨rfl, rfl⟩ d
 refine Ck<|Xm<|Xn<|Cr<|mV rfl<|tS (sF rfl fld47_0)<|tS (sL 0 rfl one3 rfl rfl)<|tD (u_mputF kok3 [_] [] R rfl O mapt156 rfl rfl rfl rfl ⟨rfl, rfl⟩ _ (.inl rfl)) ?_
 rintro _ _ ⟨z, rfl, a3, aW⟩
 refine Te<|Cr<|tS (sF rfl fld47_2)<|tS (sL 0 rfl one45 rfl rfl)<|tS (sE rfl sl45)<|mV rfl<|Te<|Cb ?_
 have bb : a.Stops.length ≤ 9223372036854775807 := (FZ.bd S)
 obtain ⟨bk, aA, i⟩ := bS hm
 refine lF (fun s => fun _ => fun H e' hp' => [(5, .map (some I)), (7, pb r), (20, sv A2 K.Trains c3), (21, iv ((K.Trains.length : Int))), (22, iv ((B : Int))), (45, sv l a.Stops m), (46, iv ((a.Stops.length : Int))), (47, iv ((s : Int)))] = e' ∧ (r, Cl 47 [iv a.No, iv a.Stock, sv l a.Stops m, sv F a.Legs G]) :: (z ++ R) = hp' ∧ C.Le H) aA ⟨rfl, rfl, lr⟩ ?_ ?_
 rintro s _ H _ _ bc a4 ⟨rfl, rfl, f⟩ t E
 unfold mGuideCheck_L1189 at t
 have hm := t
 refine Cr<|tS (lT rfl rfl (by omega))<|Te<|Cs<|c_cond_t rfl<|Ck<|Xn<|Cs<|Cb<|Cr ?_
 refine mV rfl ?_
 obtain ⟨e, aX, bd, aB, be, aC, ad, W, ae, hm⟩ := bF (sz := 4) hm (S.le f)
 obtain ⟨_, _, rfl, rfl, ⟨_, _, rfl, rfl, ⟨_, _, rfl, rfl, rfl⟩⟩⟩ := aC
 refine tS (sI aX rfl rfl aB ae W sl45)<|tS (sP (vs := [iv e.Station, iv e.Track, iv e.Arr, iv e.Dep]) 4 rfl agg83 W rfl (fun j u hu => ad j u hu))<|tD (uA [iv 0, iv 0, iv 0, iv 0] zero83 rfl) ?_
 rintro _ _ ⟨af, rfl, rfl⟩
 refine aS rfl<|tD (uN (vs := [_, _, _, _]) 0 4 rfl rfl rfl siz83 rfl (mc rfl (mc rfl (mc rfl (mc rfl mn)))) rfl (by simp)) ?_
 rintro _ _ rfl
 refine Te<|Cb ?_
 obtain ⟨aY, aD, aE⟩ := bS hm
 refine Cj (fun T e' hp' => [(5, .map (some I)), (7, pb r), (8, iv ((s : Int))), (9, pb af), (20, sv A2 K.Trains c3), (21, iv ((K.Trains.length : Int))), (22, iv ((B : Int))), (45, sv l a.Stops m), (46, iv ((a.Stops.length : Int))), (47, iv ((s : Int))), (52, bv aY)] = e' ∧ (r, Cl 47 [iv a.No, iv a.Stock, sv l a.Stops m, sv F a.Legs G]) :: (af, Cl 83 [iv e.Station, iv e.Track, iv e.Arr, iv e.Dep]) :: (z ++ R) = hp' ∧ H.Le T) ?_ ?_
 have hm := aD
 refine Cg<|tS (sF rfl fld83_0)<|tS (sL 0 rfl one3 rfl rfl) ?_
 obtain ⟨ag, ah, hm⟩ := bS hm
 refine tD (uW _ call50 rfl (fun w ho => cGuideWithin _ [] e.Station 0 11 ag ah) (fun _ _ _ h => h.2.symm)) ?_
 rintro _ _ ⟨⟨_, rfl, _⟩, rfl⟩
 rcases Bool.eq_false_or_eq_true ag with n | n
 rw [if_pos n] at hm
 refine Tr 55 rfl (v' := .bool true) (by rw [n] <;> rfl)<|tS (st_not_t rfl)<|mV rfl<|yS<|tS (sF rfl fld83_2)<|yS<|tS (sL 0 rfl one3 rfl rfl)<|yS ?_
 obtain ⟨ai, aj, hm⟩ := bS hm
 refine tD (uW _ call50 rfl (fun w ho => cGuideWithin _ [] e.Arr 0 28800 ai aj) (fun _ _ _ h => h.2.symm)) ?_
 rintro _ _ ⟨⟨_, rfl, _⟩, rfl⟩
 rcases Bool.eq_false_or_eq_true ai with o | o
 rw [if_pos o] at hm
 refine Tr 60 rfl (v' := .bool true) (by rw [o] <;> rfl)<|yS<|tS (st_not_t rfl)<|tS (pF rfl rfl)<|mV rfl<|yS<|tS (sF rfl fld83_3)<|yS<|tS (sL 0 rfl one3 rfl rfl)<|yS ?_
 obtain ⟨aZ, ak, hm⟩ := bS hm
 refine tD (uW _ call50 rfl (fun w ho => cGuideWithin _ [] e.Dep 0 28800 aZ ak) (fun _ _ _ h => h.2.symm)) ?_
 rintro _ _ ⟨⟨_, rfl, _⟩, rfl⟩
 refine yS<|tS (sn2 rfl)<|tS (pF rfl rfl)<|aS rfl<|Tn ?_
 obtain rfl := o1 hm
 exact jJ ⟨rfl, rfl, lr⟩
 rw [if_neg (fun hh => Bool.noConfusion (hh.symm.trans o))] at hm
 refine Tr 60 rfl (v' := .bool false) (by rw [o] <;> rfl)<|yS<|tS (st_not_f rfl)<|tS (pF rfl rfl)<|mV rfl<|nO<|nO<|nO<|nO<|tS (pT rfl rfl) ?_
 refine aS rfl<|Tn ?_
 obtain rfl := o1 hm
 exact jJ ⟨rfl, rfl, lr⟩
 rw [if_neg (fun hh => Bool.noConfusion (hh.symm.trans n))] at hm
 refine Tr 55 rfl (v' := .bool false) (by rw [n] <;> rfl)<|tS (st_not_f rfl)<|mV rfl<|nO<|nO<|nO<|nO<|tS (pT rfl rfl)<|mV rfl<|nO ?_
 refine nO<|nO<|nO<|tS (pT rfl rfl)<|aS rfl<|Tn ?_
 obtain rfl := o1 hm
 exact jJ ⟨rfl, rfl, lr⟩
 rintro T _ _ ⟨rfl, rfl, p⟩
 have hm := aE
 refine cB hm rfl (fun hm => ?_) fun hm => ?_
 refine Cr<|aS rfl<|Te<|Ct<|Xb<|Xb<|Xr<|Xr<|Xb<|Xb ?_
 refine Xr<|Xr<|Xb<|Xr ?_
 have aF := E _ (Option.some.inj hm).symm
 rw [aF] at i
 have hm := elimR i
 have aG := g _ (Option.some.inj hm).symm
 rw [aG] at c
 have hm := elimR c
 obtain rfl := o1 hm
 exact rO ⟨rfl, rfl⟩ (d.trans (f.trans p))
 obtain ⟨a0, aH, aI⟩ := bS hm
 refine Cj (fun al e' hp' => [(5, .map (some I)), (7, pb r), (20, sv A2 K.Trains c3), (21, iv ((K.Trains.length : Int))), (22, iv ((B : Int))), (45, sv l a.Stops m), (46, iv ((a.Stops.length : Int))), (47, iv ((s : Int))), (69, bv a0)] = e' ∧ (r, Cl 47 [iv a.No, iv a.Stock, sv l a.Stops m, sv F a.Legs G]) :: (z ++ R) = hp' ∧ T.Le al) ?_ ?_
 have hm := aH
 by_cases q : e.Dep < e.Arr
 rw [if_pos q] at hm
 refine Di mixed (.refl _)<|E0 0 rfl (sF rfl fld83_3)<|Es 1 rfl (sL 1 rfl one3 rfl rfl)<|E0 2 rfl (sF rfl fld83_2)<|Es 3 rfl (sL 1 rfl one3 rfl rfl)<|E0 4 rfl (lT rfl rfl q)<|E0 5 rfl (sM rfl)<|eN 6 rfl<|eN 7 rfl<|eN 8 rfl ?_
 refine eN 9 rfl<|eN 10 rfl<|eN 11 rfl<|eN 12 rfl<|eN 13 rfl<|eN 14 rfl<|eN 15 rfl<|eN 16 rfl<|eN 17 rfl<|eN 18 rfl ?_
 refine eN 19 rfl<|E0 20 rfl (pT rfl rfl)<|E0 21 rfl (sA rfl)<|Eo<|Dd (by kernel_rfl) ?_
 obtain rfl := o1 hm
 exact jJ ⟨rfl, rfl, lr⟩
 rw [if_neg q] at hm
 by_cases A : 0 < (s : Int)
 rw [if_pos A] at hm
 obtain ⟨_, U, hm⟩ := bS hm
 obtain ⟨bl, a1, hm⟩ := bS hm
 refine Di mixed (.refl _)<|E0 0 rfl (sF rfl fld83_3)<|Es 1 rfl (sL 1 rfl one3 rfl rfl)<|E0 2 rfl (sF rfl fld83_2)<|Es 3 rfl (sL 1 rfl one3 rfl rfl)<|E0 4 rfl (lF rfl rfl q)<|E0 5 rfl (sM rfl)<|Yz 6 75 rfl (sM rfl)<|Yz 7 75 rfl (st_gtr_t rfl rfl A)<|Yz 8 75 rfl (sM rfl) ?_
 refine Yz 9 78 rfl (sF rfl fld83_2)<|Ey 10 78 rfl (sL 1 rfl one3 rfl rfl)<|Yz 11 78 rfl (sF rfl fld47_2)<|Ey 12 78 rfl (sL 0 rfl one45 rfl rfl)<|Yz 13 78 rfl (sM rfl) ?_
 have U := (kS U).2
 refine Yz 14 78 rfl (sb rfl rfl U) ?_
 obtain ⟨a2, aJ, aK⟩ := iS a1
 obtain ⟨bf, aL, am, X, an⟩ := FZ.get (sz := 4) rfl (by decide) (S.le (f.trans p)) aK
 obtain ⟨_, _, rfl, rfl, ⟨_, _, rfl, rfl, ⟨_, _, rfl, rfl, rfl⟩⟩⟩ := aL
 refine Yz 15 78 rfl (sI a2 rfl rfl aJ an X sl45)<|Yz 16 78 rfl (sQ rfl X fld83_3)<|Ey 17 78 rfl (sO rfl one3 (am 3 _ rfl))<|Yz 18 78 rfl (q4 rfl rfl)<|Yz 19 75 rfl (pT rfl rfl)<|E0 20 rfl (pF rfl rfl)<|E0 21 rfl (sA rfl)<|Eo<|Dd (by kernel_rfl) ?_
 obtain rfl := o1 hm
 exact jJ ⟨rfl, rfl, lr⟩
 rw [if_neg A] at hm
 refine Di mixed (.refl _)<|E0 0 rfl (sF rfl fld83_3)<|Es 1 rfl (sL 1 rfl one3 rfl rfl)<|E0 2 rfl (sF rfl fld83_2)<|Es 3 rfl (sL 1 rfl one3 rfl rfl)<|E0 4 rfl (lF rfl rfl q)<|E0 5 rfl (sM rfl)<|Yz 6 75 rfl (sM rfl)<|Yz 7 75 rfl (st_gtr_f rfl rfl A)<|Yz 8 75 rfl (sM rfl) ?_
 refine eN 9 rfl<|eN 10 rfl<|eN 11 rfl<|eN 12 rfl<|eN 13 rfl<|eN 14 rfl<|eN 15 rfl<|eN 16 rfl<|eN 17 rfl<|eN 18 rfl ?_
 refine Yz 19 75 rfl (pF rfl rfl)<|E0 20 rfl (pF rfl rfl)<|E0 21 rfl (sA rfl)<|Eo<|Dd (by kernel_rfl) ?_
 obtain rfl := o1 hm
 exact jJ ⟨rfl, rfl, lr⟩
 rintro al _ _ ⟨rfl, rfl, J⟩
 have hm := aI
 refine cB hm rfl (fun hm => ?_) fun hm => ?_
 refine Cr<|aS rfl<|Te<|Ct<|Xb<|Xb<|Xr<|Xr<|Xb<|Xb ?_
 refine Xr<|Xr<|Xb<|Xr ?_
 have aM := E _ (Option.some.inj hm).symm
 rw [aM] at i
 have hm := elimR i
 have aN := g _ (Option.some.inj hm).symm
 rw [aN] at c
 have hm := elimR c
 obtain rfl := o1 hm
 exact rO ⟨rfl, rfl⟩ (d.trans (f.trans (p.trans J)))
 refine Ck<|Xm<|Xm<|Xn<|Cg<|tS (sa rfl rfl (by omega))<|mV rfl<|Tn ?_
 exact jM hm ⟨rfl, rfl, ((f.trans (p.trans J)))⟩
 rintro _ H _ _ ⟨rfl, rfl, f⟩ aO
 rw [aO] at i
 have hm := elimL i
 refine Cr<|tS (lF rfl rfl (by omega))<|Te<|Cs<|c_cond_f rfl<|Ce<|Xe<|Xe<|Xo<|Xm ?_
 refine Xn<|Cg<|tS (sa rfl rfl (by omega))<|mV rfl<|Tn ?_
 exact jM hm ⟨z, rfl, rfl, ((d.trans f)), (aW.le f)⟩
 rintro L C _ _ ⟨x, rfl, rfl, d, O⟩ aP
 rw [aP] at c
 have hm := elimL c
 refine Cr<|tS (lF rfl rfl (by omega))<|Te<|Cs<|c_cond_f rfl<|Ce<|Xe<|Xe<|Xo<|Xn ?_
 refine Cr<|aS rfl<|Te<|Ct ?_
 obtain rfl := o1 hm
 exact rO ⟨rfl, rfl⟩ d

set_option maxRecDepth 20000 in
theorem cGuideCheckLeast (b : Base) (R : Hp) (hG : GOn GT b) (d : ApiDay) (f g i j k) (n : FZ rApiTrain b.w g i d.Trains) (o : FZ (RT.list rI) b.w j k d.Turns) (e) (hm : mGuideCheckLeast d f = some e):
    CallsG Tryd.prog 49 [.agg #[sv g d.Trains i, sv j d.Turns k], iv f] b (R) (fun v b' hp' => iv e = v ∧ R = hp') := by
 refine fE 14 Tryd.func49 rfl Tryd.ntmps49 rfl ?_
 unfold mGuideCheckLeast at hm
 refine Cr<|tD (uB _ rfl rfl) ?_
 rintro _ _ ⟨p, rfl, rfl⟩
 refine aS rfl<|Te<|Cs<|Cr<|tS (sD (vs := [_, _]) 0 2 rfl agg25 rfl rfl rfl) ?_
 obtain ⟨l, a, hm⟩ := bS hm
 refine tD (uW _ call57 rfl (fun w ho => cGuideCheck _ [] ((hG.le lr).old ho) d g i j k (n.old ho) (o.old ho) l a) (fun _ _ _ h => h.2.symm)) ?_
 rintro _ _ ⟨⟨_, rfl, _⟩, rfl⟩
 refine aS rfl<|Te<|Cr<|mV rfl<|tS (q2 rfl rfl)<|Te ?_
 refine cI hm rfl (fun hm => ?_) fun hm => ?_
 refine Cr<|mV rfl<|aS rfl<|Te<|Ct<|Xr ?_
 obtain rfl := o1 hm
 exact rO ⟨rfl, rfl⟩ lr
 refine Ck<|Xn<|Cs<|Cr<|mV rfl ?_
 obtain ⟨m, c, hm⟩ := bS hm
 refine tD (uW _ call50 rfl (fun w ho => cGuideWithin _ [] f 0 28800 m c) (fun _ _ _ h => h.2.symm)) ?_
 rintro _ _ ⟨⟨_, rfl, _⟩, rfl⟩
 refine tS (sn2 rfl)<|Te ?_
 refine cM hm rfl (fun hm => ?_) fun hm => ?_
 refine Cr<|aS rfl<|Te<|Ct<|Xr ?_
 obtain rfl := o1 hm
 exact rO ⟨rfl, rfl⟩ lr
 refine Ck<|Xn<|Cr<|aS rfl<|Te<|Ct ?_
 obtain rfl := o1 hm
 exact rO ⟨rfl, rfl⟩ lr

set_option maxRecDepth 20000 in
theorem cGuideNetOn (b : Base) (R : Hp) (p : GuideNet) (A : GuideRide) (F G H I) (T : FZ rApiTrain b.w F G p.Day.Trains) (Y : FZ (RT.list rI) b.w H I p.Day.Turns) (q r s t) (hm : mGuideNetOn p A = some (q, r, s, t)):
    CallsG Tryd.prog 60 [.agg #[sv F p.Day.Trains G, sv H p.Day.Turns I, iv p.least], .agg #[iv A.Train, iv A.On, iv A.Off]] b (R) (fun v b' hp' => .agg #[iv q, iv r, iv s, iv t] = v ∧ R = hp') := by
 refine fE 17 Tryd.func60 rfl Tryd.ntmps60 rfl ?_
 unfold mGuideNetOn at hm
 refine Cr<|tD (uB _ rfl rfl) ?_
 rintro _ _ ⟨U, rfl, rfl⟩
 refine tD (uB _ rfl rfl) ?_
 rintro _ _ ⟨V, rfl, rfl⟩
 refine tD (uA [iv 0, iv 0, iv 0, iv 0] zero83 rfl) ?_
 rintro _ _ ⟨W, rfl, rfl⟩
 refine Te<|Cs ?_
 obtain ⟨X, B, hm⟩ := bS hm
 obtain ⟨a, x, hm⟩ := bS hm
 refine Di mixed (.refl _)<|E0 0 rfl (sF rfl fld91_0)<|E0 1 rfl (sF rfl fld25_0)<|Es 2 rfl (sL 2 rfl one22 rfl rfl)<|E0 3 rfl (sF rfl fld86_0)<|Es 4 rfl (sL 1 rfl one3 rfl rfl) ?_
 obtain ⟨C, i, k⟩ := iS B
 obtain ⟨D, l, e, c, f⟩ := FZ.get (sz := 4) rfl (by decide) T k
 obtain ⟨_, _, rfl, rfl, ⟨_, _, rfl, rfl, ⟨_, _, rfl, ⟨J, K, rfl, y⟩, ⟨L, O, rfl, S⟩⟩⟩⟩ := l
 refine E0 5 rfl (sI C rfl rfl i f c sl22)<|E0 6 rfl (sQ rfl c fld47_2)<|Es 7 rfl (sO rfl one45 (e 2 _ rfl))<|E0 8 rfl (sF rfl fld86_1)<|Es 9 rfl (sL 1 rfl one3 rfl rfl) ?_
 obtain ⟨z, m, n⟩ := iS x
 obtain ⟨E, o, g, d, h⟩ := FZ.get (sz := 4) rfl (by decide) y n
 obtain ⟨_, _, rfl, rfl, ⟨_, _, rfl, rfl, ⟨_, _, rfl, rfl, rfl⟩⟩⟩ := o
 refine E0 10 rfl (sI z rfl rfl m h d sl45)<|Es 11 rfl (sP (vs := [iv a.Station, iv a.Track, iv a.Arr, iv a.Dep]) 4 rfl agg83 d rfl (fun j u hu => g j u hu))<|Eo<|Da [12] (by kernel_rfl) rfl ?_
 refine Rd2 lr rfl rfl (uN (vs := [_, _, _, _]) 0 4 rfl rfl rfl siz83 rfl (mc rfl (mc rfl (mc rfl (mc rfl mn)))) rfl (by simp)) ?_ ?_
 rintro _ _ rfl
 refine ⟨.inl (by kernel_rfl), ?_⟩
 refine Dd (by kernel_rfl)<|Xn<|Ct ?_
 obtain ⟨rfl, rfl, rfl, rfl⟩ := some4 hm
 exact rM (rs := [.cell 4 83]) (vs := [.agg #[iv a.Station, iv a.Track, iv a.Arr, iv a.Dep]]) ⟨⟨_, rfl, fun w ho => cell_agg (vs := [_, _, _, _]) 0 4 agg83 rfl rfl rfl w ho⟩, trivial⟩ ⟨rfl, rfl⟩ (.cons _ (.cons _ (.cons _ (.refl _)))) lr
 exact Rn

set_option maxRecDepth 20000 in
theorem cGuideNetOff (b : Base) (R : Hp) (p : GuideNet) (A : GuideRide) (F G H I) (T : FZ rApiTrain b.w F G p.Day.Trains) (Y : FZ (RT.list rI) b.w H I p.Day.Turns) (q r s t) (hm : mGuideNetOff p A = some (q, r, s, t)):
    CallsG Tryd.prog 61 [.agg #[sv F p.Day.Trains G, sv H p.Day.Turns I, iv p.least], .agg #[iv A.Train, iv A.On, iv A.Off]] b (R) (fun v b' hp' => .agg #[iv q, iv r, iv s, iv t] = v ∧ R = hp') := by
 refine fE 17 Tryd.func61 rfl Tryd.ntmps61 rfl ?_
 unfold mGuideNetOff at hm
 refine Cr<|tD (uB _ rfl rfl) ?_
 rintro _ _ ⟨U, rfl, rfl⟩
 refine tD (uB _ rfl rfl) ?_
 rintro _ _ ⟨V, rfl, rfl⟩
 refine tD (uA [iv 0, iv 0, iv 0, iv 0] zero83 rfl) ?_
 rintro _ _ ⟨W, rfl, rfl⟩
 refine Te<|Cs ?_
 obtain ⟨X, B, hm⟩ := bS hm
 obtain ⟨a, x, hm⟩ := bS hm
 refine Di mixed (.refl _)<|E0 0 rfl (sF rfl fld91_0)<|E0 1 rfl (sF rfl fld25_0)<|Es 2 rfl (sL 2 rfl one22 rfl rfl)<|E0 3 rfl (sF rfl fld86_0)<|Es 4 rfl (sL 1 rfl one3 rfl rfl) ?_
 obtain ⟨C, i, k⟩ := iS B
 obtain ⟨D, l, e, c, f⟩ := FZ.get (sz := 4) rfl (by decide) T k
 obtain ⟨_, _, rfl, rfl, ⟨_, _, rfl, rfl, ⟨_, _, rfl, ⟨J, K, rfl, y⟩, ⟨L, O, rfl, S⟩⟩⟩⟩ := l
 refine E0 5 rfl (sI C rfl rfl i f c sl22)<|E0 6 rfl (sQ rfl c fld47_2)<|Es 7 rfl (sO rfl one45 (e 2 _ rfl))<|E0 8 rfl (sF rfl fld86_2)<|Es 9 rfl (sL 1 rfl one3 rfl rfl) ?_
 obtain ⟨z, m, n⟩ := iS x
 obtain ⟨E, o, g, d, h⟩ := FZ.get (sz := 4) rfl (by decide) y n
 obtain ⟨_, _, rfl, rfl, ⟨_, _, rfl, rfl, ⟨_, _, rfl, rfl, rfl⟩⟩⟩ := o
 refine E0 10 rfl (sI z rfl rfl m h d sl45)<|Es 11 rfl (sP (vs := [iv a.Station, iv a.Track, iv a.Arr, iv a.Dep]) 4 rfl agg83 d rfl (fun j u hu => g j u hu))<|Eo<|Da [12] (by kernel_rfl) rfl ?_
 refine Rd2 lr rfl rfl (uN (vs := [_, _, _, _]) 0 4 rfl rfl rfl siz83 rfl (mc rfl (mc rfl (mc rfl (mc rfl mn)))) rfl (by simp)) ?_ ?_
 rintro _ _ rfl
 refine ⟨.inl (by kernel_rfl), ?_⟩
 refine Dd (by kernel_rfl)<|Xn<|Ct ?_
 obtain ⟨rfl, rfl, rfl, rfl⟩ := some4 hm
 exact rM (rs := [.cell 4 83]) (vs := [.agg #[iv a.Station, iv a.Track, iv a.Arr, iv a.Dep]]) ⟨⟨_, rfl, fun w ho => cell_agg (vs := [_, _, _, _]) 0 4 agg83 rfl rfl rfl w ho⟩, trivial⟩ ⟨rfl, rfl⟩ (.cons _ (.cons _ (.cons _ (.refl _)))) lr
 exact Rn

set_option maxRecDepth 20000 in
theorem cGuideNetJourney (b : Base) (R : Hp) (o : GuideNet) (y : GuideJourney) (z T U V W X s) (h4 : FZ rApiTrain b.w T U o.Day.Trains) (h7 : FZ (RT.list rI) b.w V W o.Day.Turns) (aK : FZ rGuideRide b.w X s y.Rides) (am) (hm : mGuideNetJourney o y z = some am):
    CallsG Tryd.prog 59 [.agg #[sv T o.Day.Trains U, sv V o.Day.Turns W, iv o.least], .agg #[sv X y.Rides s], bv z] b (R) (fun v b' hp' => iv am = v ∧ R = hp') := by
 refine fE 104 Tryd.func59 rfl Tryd.ntmps59 rfl ?_
 unfold mGuideNetJourney at hm
 refine Cr<|tD (uB _ rfl rfl) ?_
 rintro _ _ ⟨m, rfl, rfl⟩
 refine tD (uB _ rfl rfl) ?_
 rintro _ _ ⟨n, rfl, rfl⟩
 refine aS rfl<|Te<|Cs<|Cr<|tS (sF rfl fld33_0)<|tS (sL 0 rfl one31 rfl rfl)<|tS (sE rfl sl31) ?_
 obtain ⟨a5, Y, hm⟩ := bS hm
 refine tD (uW _ call50 rfl (fun w ho => cGuideWithin _ [] (y.Rides.length : Int) 1 4 a5 Y) (fun _ _ _ h => h.2.symm)) ?_
 rintro _ _ ⟨⟨_, rfl, _⟩, rfl⟩
 refine tS (sn2 rfl)<|Te ?_
 refine cM hm rfl (fun hm => ?_) fun hm => ?_
 refine Cr<|aS rfl<|Te<|Ct<|Xr ?_
 obtain rfl := o1 hm
 exact rO ⟨rfl, rfl⟩ lr
 refine Ck<|Xn<|Cs<|Cr<|tS (sF rfl fld33_0)<|tS (sL 0 rfl one31 rfl rfl)<|tS (sE rfl sl31)<|mV rfl<|Te<|Cb ?_
 have bf : y.Rides.length ≤ 9223372036854775807 := (FZ.bd aK)
 refine Cp 1 rfl ?_
 obtain ⟨bn, aL, d⟩ := bS hm
 refine lF (fun t => fun _ => fun A e' hp' => [(2, bv z), (3, pb m), (4, pb n), (17, sv X y.Rides s), (18, iv ((y.Rides.length : Int))), (19, iv ((t : Int)))] = e' ∧ (m, Cl 91 [sv T o.Day.Trains U, sv V o.Day.Turns W, iv o.least]) :: (n, Cl 33 [sv X y.Rides s]) :: R = hp' ∧ b.Le A) aL ⟨rfl, rfl, lr⟩ ?_ ?_
 rintro t _ A _ _ bg a6 ⟨rfl, rfl, a⟩ p f
 unfold mGuideNetJourney_L428 at p
 have hm := p
 refine Cr<|tS (lT rfl rfl (by omega))<|Te<|Cs<|c_cond_t rfl<|Ck<|Xn<|Cs<|Cb<|Cr ?_
 refine mV rfl ?_
 obtain ⟨e, a7, bh, aM, bi, aN, Z, F, aa, hm⟩ := bF (sz := 3) hm (aK.le a)
 obtain ⟨_, _, rfl, rfl, ⟨_, _, rfl, rfl, rfl⟩⟩ := aN
 refine tS (sI a7 rfl rfl aM aa F sl31)<|tS (sP (vs := [iv e.Train, iv e.On, iv e.Off]) 3 rfl agg86 F rfl (fun j u hu => Z j u hu))<|tD (uA [iv 0, iv 0, iv 0] zero86 rfl) ?_
 rintro _ _ ⟨B, rfl, rfl⟩
 refine aS rfl<|tD (uN (vs := [_, _, _]) 0 3 rfl rfl rfl siz86 rfl (mc rfl (mc rfl (mc rfl mn))) rfl (by simp)) ?_
 rintro _ _ rfl
 refine Te<|Cs<|Cr<|tS (sF rfl fld86_0)<|tS (sL 0 rfl one3 rfl rfl)<|tS (sF rfl fld91_0)<|tS (sF rfl fld25_0)<|tS (sL 1 rfl one22 rfl rfl)<|tS (sE rfl sl22) ?_
 obtain ⟨_, G, hm⟩ := bS hm
 have G := (kS G).2
 refine tS (sb rfl rfl G) ?_
 obtain ⟨a8, ab, hm⟩ := bS hm
 refine tD (uW _ call50 rfl (fun w ho => cGuideWithin _ [] e.Train 0 ((o.Day.Trains.length : Int) - 1) a8 ab) (fun _ _ _ h => h.2.symm)) ?_
 rintro _ _ ⟨⟨_, rfl, _⟩, rfl⟩
 refine tS (sn2 rfl)<|Te ?_
 refine cM hm rfl (fun hm => ?_) fun hm => ?_
 refine Cr<|aS rfl<|Te<|Ct<|Xr<|Xb<|Xr<|Xr<|Xb<|Xr ?_
 have aO := f _ (Option.some.inj hm).symm
 rw [aO] at d
 have hm := elimR d
 obtain rfl := o1 hm
 exact rO ⟨rfl, rfl⟩ a
 refine Ck<|Xn<|Cr<|tS (sF rfl fld91_0)<|tS (sF rfl fld25_0)<|tS (sL 1 rfl one22 rfl rfl)<|tS (sF rfl fld86_0)<|tS (sL 0 rfl one3 rfl rfl) ?_
 obtain ⟨an, a9, bj, aP, bk, aQ, ac, H, ad, hm⟩ := bF (sz := 4) hm (h4.le a)
 obtain ⟨_, _, rfl, rfl, ⟨_, _, rfl, rfl, ⟨_, _, rfl, ⟨bo, bp, rfl, bq⟩, ⟨br, bs, rfl, bt⟩⟩⟩⟩ := aQ
 refine tS (sI a9 rfl rfl aP ad H sl22)<|tS (sQ rfl H fld47_2)<|tS (sO rfl one45 (ac 2 _ rfl))<|tS (sE rfl sl45) ?_
 obtain ⟨_, I, hm⟩ := bS hm
 have I := (kS I).2
 refine tS (sb rfl rfl I)<|aS rfl<|Te<|Cs<|Cb ?_
 obtain ⟨ba, aR, aT⟩ := bS hm
 refine Cj (fun J e' hp' => [(2, bv z), (3, pb m), (4, pb n), (7, iv ((t : Int))), (8, pb B), (17, sv X y.Rides s), (18, iv ((y.Rides.length : Int))), (19, iv ((t : Int))), (43, bv ba)] = e' ∧ (m, Cl 91 [sv T o.Day.Trains U, sv V o.Day.Turns W, iv o.least]) :: (n, Cl 33 [sv X y.Rides s]) :: (B, Cl 86 [iv e.Train, iv e.On, iv e.Off]) :: R = hp' ∧ A.Le J) ?_ ?_
 have hm := aR
 refine Cg<|tS (sF rfl fld86_1)<|tS (sL 0 rfl one3 rfl rfl)<|mV rfl ?_
 obtain ⟨ao, ae, hm⟩ := bS hm
 refine tD (uW _ call50 rfl (fun w ho => cGuideWithin _ [] e.On 0 ((an.Stops.length : Int) - 1) ao ae) (fun _ _ _ h => h.2.symm)) ?_
 rintro _ _ ⟨⟨_, rfl, _⟩, rfl⟩
 rcases Bool.eq_false_or_eq_true ao with q | q
 rw [if_pos q] at hm
 refine Tr 47 rfl (v' := .bool true) (by rw [q] <;> rfl)<|tS (st_not_t rfl)<|mV rfl<|yS<|tS (sF rfl fld86_2)<|yS<|tS (sL 0 rfl one3 rfl rfl)<|yS<|mV rfl<|yS ?_
 obtain ⟨bb, af, hm⟩ := bS hm
 refine tD (uW _ call50 rfl (fun w ho => cGuideWithin _ [] e.Off 0 ((an.Stops.length : Int) - 1) bb af) (fun _ _ _ h => h.2.symm)) ?_
 rintro _ _ ⟨⟨_, rfl, _⟩, rfl⟩
 refine yS<|tS (sn2 rfl)<|tS (pF rfl rfl)<|aS rfl<|Tn ?_
 obtain rfl := o1 hm
 exact jJ ⟨rfl, rfl, lr⟩
 rw [if_neg (fun hh => Bool.noConfusion (hh.symm.trans q))] at hm
 refine Tr 47 rfl (v' := .bool false) (by rw [q] <;> rfl)<|tS (st_not_f rfl)<|mV rfl<|nO<|nO<|nO<|nO<|nO<|tS (pT rfl rfl)<|aS rfl ?_
 refine Tn ?_
 obtain rfl := o1 hm
 exact jJ ⟨rfl, rfl, lr⟩
 rintro J _ _ ⟨rfl, rfl, c⟩
 have hm := aT
 refine cB hm rfl (fun hm => ?_) fun hm => ?_
 refine Cr<|aS rfl<|Te<|Ct<|Xb<|Xr<|Xb<|Xr<|Xr<|Xb ?_
 refine Xr ?_
 have aU := f _ (Option.some.inj hm).symm
 rw [aU] at d
 have hm := elimR d
 obtain rfl := o1 hm
 exact rO ⟨rfl, rfl⟩ (a.trans c)
 refine Cr<|tS (sF rfl fld86_1)<|tS (sL 2 rfl one3 rfl rfl)<|tS (sF rfl fld86_2)<|tS (sL 2 rfl one3 rfl rfl)<|tS (q6 rfl rfl)<|aS rfl<|Te ?_
 refine cI hm rfl (fun hm => ?_) fun hm => ?_
 refine Cr<|aS rfl<|Te<|Ct<|Xb<|Xr<|Xb<|Xr<|Xr<|Xb ?_
 refine Xr ?_
 have aV := f _ (Option.some.inj hm).symm
 rw [aV] at d
 have hm := elimR d
 obtain rfl := o1 hm
 exact rO ⟨rfl, rfl⟩ (a.trans c)
 refine Ck<|Xm<|Xn<|Cs<|Cr<|mV rfl<|tS (q1 rfl rfl)<|Te ?_
 refine cI hm rfl (fun hm => ?_) fun hm => ?_
 refine Ce<|Xe<|Xo<|Xn<|Cg<|tS (sa rfl rfl (by omega))<|mV rfl<|Tn ?_
 exact jM hm ⟨rfl, rfl, ((a.trans c))⟩
 refine Ck<|Xn<|Cr<|tS (sF rfl fld33_0)<|tS (sL 1 rfl one31 rfl rfl)<|mV rfl ?_
 obtain ⟨_, K, hm⟩ := bS hm
 have K := (kS K).2
 refine tS (sb rfl rfl K) ?_
 obtain ⟨l, bc, bl, aW, bm, aX, ag, L, ah, hm⟩ := bF (sz := 3) hm (aK.le (a.trans c))
 obtain ⟨_, _, rfl, rfl, ⟨_, _, rfl, rfl, rfl⟩⟩ := aX
 refine tS (sI bc rfl rfl aW ah L sl31)<|tS (sP (vs := [iv l.Train, iv l.On, iv l.Off]) 3 rfl agg86 L rfl (fun j u hu => ag j u hu))<|tD (uA [iv 0, iv 0, iv 0] zero86 rfl) ?_
 rintro _ _ ⟨aq, rfl, rfl⟩
 refine tD (uN (vs := [_, _, _]) 0 3 rfl rfl rfl siz86 rfl (mc rfl (mc rfl (mc rfl mn))) rfl (by simp)) ?_
 rintro _ _ rfl
 refine Te<|Cb ?_
 obtain ⟨bd, aY, aZ⟩ := bS hm
 refine Cj (fun O e' hp' => [(2, bv z), (3, pb m), (4, pb n), (8, pb B), (10, pb aq), (17, sv X y.Rides s), (18, iv ((y.Rides.length : Int))), (19, iv ((t : Int))), (70, bv bd)] = e' ∧ (m, Cl 91 [sv T o.Day.Trains U, sv V o.Day.Turns W, iv o.least]) :: (n, Cl 33 [sv X y.Rides s]) :: (B, Cl 86 [iv e.Train, iv e.On, iv e.Off]) :: (aq, Cl 86 [iv l.Train, iv l.On, iv l.Off]) :: R = hp' ∧ J.Le O) ?_ ?_
 have hm := aY
 by_cases x : e.Train = l.Train
 rw [if_pos x] at hm
 refine Di mixed (.refl _)<|E0 0 rfl (sF rfl fld86_0)<|Es 1 rfl (sL 3 rfl one3 rfl rfl)<|E0 2 rfl (sF rfl fld86_0)<|Es 3 rfl (sL 0 rfl one3 rfl rfl)<|E0 4 rfl (eT rfl rfl x)<|E0 5 rfl (sM rfl)<|eN 6 rfl<|eN 7 rfl<|eN 8 rfl ?_
 refine eN 9 rfl<|eN 10 rfl<|eN 11 rfl<|eN 12 rfl<|eN 13 rfl<|eN 14 rfl<|E0 15 rfl (pT rfl rfl)<|E0 16 rfl (sA rfl)<|Eo<|Dd (by kernel_rfl) ?_
 obtain rfl := o1 hm
 exact jJ ⟨rfl, rfl, lr⟩
 rw [if_neg x] at hm
 obtain ⟨⟨ar, au, av, aw⟩, ai, hm⟩ := bS hm
 have hm := (unc4E hm)
 obtain ⟨⟨ax, ay, az, aA⟩, aj, hm⟩ := bS hm
 have hm := (unc4E hm)
 refine Di mixed (.refl _)<|E0 0 rfl (sF rfl fld86_0)<|Es 1 rfl (sL 3 rfl one3 rfl rfl)<|E0 2 rfl (sF rfl fld86_0)<|Es 3 rfl (sL 0 rfl one3 rfl rfl)<|E0 4 rfl (eF rfl rfl x)<|E0 5 rfl (sM rfl)<|Ey 6 76 rfl (sD (vs := [_, _, _]) 1 3 rfl agg91 rfl rfl rfl)<|Ey 7 76 rfl (sD (vs := [_, _, _]) 3 3 rfl agg86 rfl rfl rfl)<|Ey 10 76 rfl (sD (vs := [_, _, _]) 1 3 rfl agg91 rfl rfl rfl) ?_
 refine Ey 11 76 rfl (sD (vs := [_, _, _]) 0 3 rfl agg86 rfl rfl rfl)<|Eo<|Da [8] (by kernel_rfl) rfl ?_
 refine R_callGlY lr rfl rfl 76 rfl rfl rfl _ call60 rfl (cGuideNetOn _ _ o e T U V W (h4.le (a.trans c)) (h7.le (a.trans c)) ar au av aw ai) ?_ ?_
 rintro _ bu _ i ⟨rfl, rfl⟩
 refine iR<|Ei i (.refl _)<|Yz 9 76 rfl (st_vfield1 (cs := [iv ar, iv au, iv av, iv aw]) rfl fdv83_0 one3 rfl)<|Eo<|Da [12] (by kernel_rfl) rfl ?_
 refine R_callGlY i rfl rfl 76 rfl rfl rfl _ call61 rfl (cGuideNetOff _ _ o l T U V W (h4.le (a.trans (c.trans i))) (h7.le (a.trans (c.trans i))) ax ay az aA aj) ?_ ?_
 rintro _ bw _ C ⟨rfl, rfl⟩
 refine iR<|Ei (i.trans C) (.refl _)<|Yz 13 76 rfl (st_vfield1 (cs := [iv ax, iv ay, iv az, iv aA]) rfl fdv83_0 one3 rfl)<|Yz 14 76 rfl (q2 rfl rfl)<|E0 15 rfl (pF rfl rfl)<|E0 16 rfl (sA rfl)<|Eo<|Dd (by kernel_rfl) ?_
 obtain rfl := o1 hm
 exact jJ ⟨rfl, rfl, (i.trans C)⟩
 exact Rn
 exact Rn
 rintro O _ _ ⟨rfl, rfl, g⟩
 have hm := aZ
 refine cB hm rfl (fun hm => ?_) fun hm => ?_
 refine Cr<|aS rfl<|Te<|Ct<|Xb<|Xb<|Xr<|Xr<|Xb<|Xr ?_
 have a0 := f _ (Option.some.inj hm).symm
 rw [a0] at d
 have hm := elimR d
 obtain rfl := o1 hm
 exact rO ⟨rfl, rfl⟩ (a.trans (c.trans g))
 obtain ⟨be, a1, a2⟩ := bS hm
 refine Cj (fun aB e' hp' => [(2, bv z), (3, pb m), (4, pb n), (17, sv X y.Rides s), (18, iv ((y.Rides.length : Int))), (19, iv ((t : Int))), (87, bv be)] = e' ∧ (m, Cl 91 [sv T o.Day.Trains U, sv V o.Day.Turns W, iv o.least]) :: (n, Cl 33 [sv X y.Rides s]) :: R = hp' ∧ O.Le aB) ?_ ?_
 have hm := a1
 rcases Bool.eq_false_or_eq_true z with r | r
 rw [if_pos r] at hm
 obtain ⟨⟨aC, aD, aE, aF⟩, ak, hm⟩ := bS hm
 have hm := (unc4E hm)
 obtain ⟨⟨aG, aH, aI, aJ⟩, al, hm⟩ := bS hm
 have hm := (unc4E hm)
 obtain ⟨_, S, hm⟩ := bS hm
 refine Di mixed (.refl _)<|E0 0 rfl (stB (sM rfl) r)<|E0 1 rfl (sM rfl)<|Ey 2 89 rfl (sD (vs := [_, _, _]) 0 3 rfl agg91 rfl rfl rfl)<|Ey 3 89 rfl (sD (vs := [_, _, _]) 2 3 rfl agg86 rfl rfl rfl)<|Ey 6 89 rfl (sD (vs := [_, _, _]) 0 3 rfl agg91 rfl rfl rfl)<|Ey 7 89 rfl (sD (vs := [_, _, _]) 3 3 rfl agg86 rfl rfl rfl)<|Yz 10 89 rfl (sF rfl fld91_1)<|Ey 11 89 rfl (sL 0 rfl one3 rfl rfl)<|Eo ?_
 refine Da [4] (by kernel_rfl) rfl ?_
 refine R_callGlY lr rfl rfl 89 rfl rfl rfl _ call60 rfl (cGuideNetOn _ _ o e T U V W (h4.le (a.trans (c.trans g))) (h7.le (a.trans (c.trans g))) aC aD aE aF ak) ?_ ?_
 rintro _ bx _ k ⟨rfl, rfl⟩
 refine iR<|Ei k (.refl _)<|Yz 5 89 rfl (st_vfield1 (cs := [iv aC, iv aD, iv aE, iv aF]) rfl fdv83_3 one3 rfl)<|Eo<|Da [8] (by kernel_rfl) rfl ?_
 refine R_callGlY k rfl rfl 89 rfl rfl rfl _ call61 rfl (cGuideNetOff _ _ o l T U V W (h4.le (a.trans (c.trans (g.trans k)))) (h7.le (a.trans (c.trans (g.trans k)))) aG aH aI aJ al) ?_ ?_
 rintro _ bz _ D ⟨rfl, rfl⟩
 refine iR<|Ei (k.trans D) (.refl _)<|Yz 9 89 rfl (st_vfield1 (cs := [iv aG, iv aH, iv aI, iv aJ]) rfl fdv83_2 one3 rfl) ?_
 have S := (kS S).2
 refine Yz 12 89 rfl (sa rfl rfl S)<|Yz 13 89 rfl (q3 rfl rfl)<|E0 14 rfl (pT rfl rfl)<|E0 15 rfl (sA rfl)<|Eo<|Dd (by kernel_rfl) ?_
 obtain rfl := o1 hm
 exact jJ ⟨rfl, rfl, (k.trans D)⟩
 exact Rn
 exact Rn
 rw [if_neg (fun hh => Bool.noConfusion (hh.symm.trans r))] at hm
 refine Di mixed (.refl _)<|E0 0 rfl (stB (sM rfl) r)<|E0 1 rfl (sM rfl)<|eN 2 rfl<|eN 3 rfl<|eN 4 rfl<|eN 5 rfl<|eN 6 rfl<|eN 7 rfl<|eN 8 rfl ?_
 refine eN 9 rfl<|eN 10 rfl<|eN 11 rfl<|eN 12 rfl<|eN 13 rfl<|E0 14 rfl (pF rfl rfl)<|E0 15 rfl (sA rfl)<|Eo<|Dd (by kernel_rfl) ?_
 obtain rfl := o1 hm
 exact jJ ⟨rfl, rfl, lr⟩
 rintro aB _ _ ⟨rfl, rfl, E⟩
 have hm := a2
 refine cB hm rfl (fun hm => ?_) fun hm => ?_
 refine Cr<|aS rfl<|Te<|Ct<|Xb<|Xb<|Xr<|Xr<|Xb<|Xr ?_
 have a3 := f _ (Option.some.inj hm).symm
 rw [a3] at d
 have hm := elimR d
 obtain rfl := o1 hm
 exact rO ⟨rfl, rfl⟩ (a.trans (c.trans (g.trans E)))
 refine Ck<|Xm<|Xm<|Xn<|Cg<|tS (sa rfl rfl (by omega))<|mV rfl<|Tn ?_
 exact jM hm ⟨rfl, rfl, ((a.trans (c.trans (g.trans E))))⟩
 rintro _ A _ _ ⟨rfl, rfl, a⟩ a4
 rw [a4] at d
 have hm := elimL d
 refine Cr<|tS (lF rfl rfl (by omega))<|Te<|Cs<|c_cond_f rfl<|Ce<|Xe<|Xe<|Xo<|Xn ?_
 refine Cr<|aS rfl<|Te<|Ct ?_
 obtain rfl := o1 hm
 exact rO ⟨rfl, rfl⟩ a

set_option maxRecDepth 20000 in
theorem cGuideCheckJourney (b : Base) (R : Hp) (hG : GOn GT b) (c : ApiDay) (m : GuideJourney) (a g i j k n d) (r : FZ rApiTrain b.w g i c.Trains) (s : FZ (RT.list rI) b.w j k c.Turns) (o : FZ rGuideRide b.w n d m.Rides) (l) (hm : mGuideCheckJourney c m a = some l):
    CallsG Tryd.prog 31 [.agg #[sv g c.Trains i, sv j c.Turns k], .agg #[sv n m.Rides d], iv a] b (R) (fun v b' hp' => iv l = v ∧ R = hp') := by
 refine fE 19 Tryd.func31 rfl Tryd.ntmps31 rfl ?_
 unfold mGuideCheckJourney at hm
 refine Cr<|tD (uB _ rfl rfl) ?_
 rintro _ _ ⟨t, rfl, rfl⟩
 refine tD (uB _ rfl rfl) ?_
 rintro _ _ ⟨u, rfl, rfl⟩
 refine aS rfl<|Te<|Cs<|Cr<|tS (sD (vs := [_, _]) 1 2 rfl agg25 rfl rfl rfl)<|mV rfl ?_
 obtain ⟨p, e, hm⟩ := bS hm
 refine tD (uW _ call49 rfl (fun w ho => cGuideCheckLeast _ [] ((hG.le lr).old ho) c a g i j k (r.old ho) (s.old ho) p e) (fun _ _ _ h => h.2.symm)) ?_
 rintro _ _ ⟨⟨_, rfl, _⟩, rfl⟩
 refine aS rfl<|Te<|Cr<|mV rfl<|tS (q2 rfl rfl)<|Te ?_
 refine cI hm rfl (fun hm => ?_) fun hm => ?_
 refine Cr<|mV rfl<|aS rfl<|Te<|Ct<|Xr ?_
 obtain rfl := o1 hm
 exact rO ⟨rfl, rfl⟩ lr
 refine Ck<|Xn<|Cr<|tS (sD (vs := [_, _]) 1 2 rfl agg25 rfl rfl rfl)<|mV rfl<|tS (sB (v := .agg #[sv g c.Trains i, sv j c.Turns k, iv a]) [(0, .agg #[sv g c.Trains i, sv j c.Turns k]), (1, iv a)] rfl (fun _ => by kernel_rfl))<|tS (sD (vs := [_]) 0 1 rfl agg33 rfl rfl rfl) ?_
 obtain ⟨q, f, hm⟩ := bS hm
 refine tD (uW _ call59 rfl (fun w ho => cGuideNetJourney _ [] (⟨c, a⟩ : GuideNet) m true g i j k n d (r.old ho) (s.old ho) (o.old ho) q f) (fun _ _ _ h => h.2.symm)) ?_
 rintro _ _ ⟨⟨_, rfl, _⟩, rfl⟩
 refine aS rfl<|Te<|Ct ?_
 obtain rfl := o1 hm
 exact rO ⟨rfl, rfl⟩ lr

set_option maxRecDepth 20000 in
theorem cFishkeep2AwakeGuide (b : Base) (R : Hp) (hG : GOn GT b) (c) (hm : mFishkeep2AwakeGuide = some c):
    CallsG Tryd.prog 7 [] b (R) (fun v b' hp' => bv c = v ∧ R = hp') := by
 refine fE 5 Tryd.func7 rfl Tryd.ntmps7 rfl ?_
 unfold mFishkeep2AwakeGuide at hm
 refine Cr<|aS rfl<|Te<|Cr<|tS (sB (v := .agg #[sn, sn]) [] rfl (fun _ => by kernel_rfl))<|tS (sB (v := .agg #[sn]) [] rfl (fun _ => by kernel_rfl)) ?_
 obtain ⟨d, a, hm⟩ := bS hm
 refine tD (uW _ call31 rfl (fun w ho => cGuideCheckJourney _ [] ((hG.le lr).old ho) (⟨[], []⟩ : ApiDay) (⟨[]⟩ : GuideJourney) (-1) none 0 none 0 none 0 FZ.nil FZ.nil FZ.nil d a) (fun _ _ _ h => h.2.symm)) ?_
 rintro _ _ ⟨⟨_, rfl, _⟩, rfl⟩
 refine tS (q2 rfl rfl)<|aS rfl<|Te<|Ct ?_
 obtain rfl := o1 hm
 exact rO ⟨rfl, rfl⟩ lr

set_option maxRecDepth 20000 in
theorem clSlicesClone (A : Option Addr) (n c : Nat) (xs : List Value) (w : World) (hR : Rd w A xs) (hl : xs.length = n * 4) (hn : n * 64 ≤ 140737488355328 ∧ n ≤ 9223372036854775807) :
    CallsH Tryd.prog 19 [.slice A n c] w [] (fun v hp' => Seg0 47 4 v n xs hp') := by
  refine fn_enter 8 Tryd.func19 rfl Tryd.ntmps19 rfl ?_
  refine c_sr ?_
  refine t_as rfl rfl ?_
  refine t_ne ?_
  refine c_seq ?_
  refine c_sr ?_
  refine t_mv rfl rfl ?_
  refine t_bool rfl (st_eqnil rfl rfl sl22) (fun hc1 => ?_) (fun hc1 => ?_)
  ·
    refine t_ne ?_
    refine c_cond_t rfl ?_
    refine c_sr ?_
    refine t_as rfl rfl ?_
    refine t_ne ?_
    refine c_ret ?_
    refine x_then_ret ?_
    subst hc1
    obtain rfl := hR.none_nil
    obtain rfl : n = 0 := by simp at hl; omega
    refine x_drop (hp' := []) (by repeat (first | exact List.Sublist.refl _ | exact List.nil_sublist _ | exact List.sublist_append_left _ _ | exact List.sublist_append_right _ _ | exact (List.sublist_append_right _ _).trans (List.sublist_append_right _ _) | apply List.Sublist.cons_cons | apply List.Sublist.cons)) ?_
    exact ret1 (Base.Le.refl _) rfl rfl (Seg0.nil)
  ·
    refine t_ne ?_
    refine c_cond_f rfl ?_
    refine c_skip ?_
    refine x_then_normal ?_
    refine c_sr ?_
    refine t_do rfl (u_bslice (el := 47) [] [] rfl (fun _ => by kernel_rfl)) ?_
    rintro _ _ ⟨g0, rfl, rfl⟩
    refine t_mv rfl rfl ?_
    refine t_do rfl (u_app0 xs sl22 inf47 rfl (by decide) rfl rfl hl (fun w ho => hR.old ho) hn.2 hn.1) ?_
    rintro _ _ ⟨hs, rfl, hseg⟩
    refine t_as rfl rfl ?_
    refine t_ne ?_
    refine c_ret ?_
    refine x_drop (hp' := hs) (by repeat (first | exact List.Sublist.refl _ | exact List.nil_sublist _ | exact List.sublist_append_left _ _ | exact List.sublist_append_right _ _ | exact (List.sublist_append_right _ _).trans (List.sublist_append_right _ _) | apply List.Sublist.cons_cons | apply List.Sublist.cons)) ?_
    exact ret1 (Base.Le.refl _) rfl rfl hseg

set_option maxRecDepth 20000 in
theorem cSlicesClone (b : Base) (R : Hp) (d e f) (i : FZ rApiTrain b.w e f d) (a) (hm : mSlicesClone d = some a):
    CallsG Tryd.prog 19 [sv e d f] b (R) (fun v b' hp' => ∃ g h c, sv g a h = v ∧ (c ++ R) = hp' ∧ OS 47 (OT.fr rApiTrain) b'.w (sv g a h) a c) := by
 unfold mSlicesClone at hm
 obtain ⟨_, hroom, hm⟩ := bS hm
 have hroom := room_some hroom
 obtain rfl := o1 hm
 exact clone_of (r := rApiTrain) (sz := 4) (by_ := 64) rfl (by decide) clSlicesClone i hroom

set_option maxRecDepth 20000 in
theorem clSlicesClone_2 (A : Option Addr) (n c : Nat) (xs : List Value) (w : World) (hR : Rd w A xs) (hl : xs.length = n * 1) (hn : n * 24 ≤ 140737488355328 ∧ n ≤ 9223372036854775807) :
    CallsH Tryd.prog 82 [.slice A n c] w [] (fun v hp' => Seg0 49 1 v n xs hp') := by
  refine fn_enter 8 Tryd.func82 rfl Tryd.ntmps82 rfl ?_
  refine c_sr ?_
  refine t_as rfl rfl ?_
  refine t_ne ?_
  refine c_seq ?_
  refine c_sr ?_
  refine t_mv rfl rfl ?_
  refine t_bool rfl (st_eqnil rfl rfl sl23) (fun hc1 => ?_) (fun hc1 => ?_)
  ·
    refine t_ne ?_
    refine c_cond_t rfl ?_
    refine c_sr ?_
    refine t_as rfl rfl ?_
    refine t_ne ?_
    refine c_ret ?_
    refine x_then_ret ?_
    subst hc1
    obtain rfl := hR.none_nil
    obtain rfl : n = 0 := by simp at hl; omega
    refine x_drop (hp' := []) (by repeat (first | exact List.Sublist.refl _ | exact List.nil_sublist _ | exact List.sublist_append_left _ _ | exact List.sublist_append_right _ _ | exact (List.sublist_append_right _ _).trans (List.sublist_append_right _ _) | apply List.Sublist.cons_cons | apply List.Sublist.cons)) ?_
    exact ret1 (Base.Le.refl _) rfl rfl (Seg0.nil)
  ·
    refine t_ne ?_
    refine c_cond_f rfl ?_
    refine c_skip ?_
    refine x_then_normal ?_
    refine c_sr ?_
    refine t_do rfl (u_bslice (el := 49) [] [] rfl (fun _ => by kernel_rfl)) ?_
    rintro _ _ ⟨g0, rfl, rfl⟩
    refine t_mv rfl rfl ?_
    refine t_do rfl (u_app0 xs sl23 inf49 rfl (by decide) rfl rfl hl (fun w ho => hR.old ho) hn.2 hn.1) ?_
    rintro _ _ ⟨hs, rfl, hseg⟩
    refine t_as rfl rfl ?_
    refine t_ne ?_
    refine c_ret ?_
    refine x_drop (hp' := hs) (by repeat (first | exact List.Sublist.refl _ | exact List.nil_sublist _ | exact List.sublist_append_left _ _ | exact List.sublist_append_right _ _ | exact (List.sublist_append_right _ _).trans (List.sublist_append_right _ _) | apply List.Sublist.cons_cons | apply List.Sublist.cons)) ?_
    exact ret1 (Base.Le.refl _) rfl rfl hseg

set_option maxRecDepth 20000 in
theorem cSlicesClone_2 (b : Base) (R : Hp) (d e f) (i : FZ (RT.list rI) b.w e f d) (a) (hm : mSlicesClone_2 d = some a):
    CallsG Tryd.prog 82 [sv e d f] b (R) (fun v b' hp' => ∃ g h c, sv g a h = v ∧ (c ++ R) = hp' ∧ OS 49 (OT.fr (RT.list rI)) b'.w (sv g a h) a c) := by
 unfold mSlicesClone_2 at hm
 obtain ⟨_, hroom, hm⟩ := bS hm
 have hroom := room_some hroom
 obtain rfl := o1 hm
 exact clone_of (r := (RT.list rI)) (sz := 1) (by_ := 24) rfl (by decide) clSlicesClone_2 i hroom

set_option maxRecDepth 20000 in
theorem clSlicesClone_3 (A : Option Addr) (n c : Nat) (xs : List Value) (w : World) (hR : Rd w A xs) (hl : xs.length = n * 4) (hn : n * 32 ≤ 140737488355328 ∧ n ≤ 9223372036854775807) :
    CallsH Tryd.prog 83 [.slice A n c] w [] (fun v hp' => Seg0 83 4 v n xs hp') := by
  refine fn_enter 8 Tryd.func83 rfl Tryd.ntmps83 rfl ?_
  refine c_sr ?_
  refine t_as rfl rfl ?_
  refine t_ne ?_
  refine c_seq ?_
  refine c_sr ?_
  refine t_mv rfl rfl ?_
  refine t_bool rfl (st_eqnil rfl rfl sl45) (fun hc1 => ?_) (fun hc1 => ?_)
  ·
    refine t_ne ?_
    refine c_cond_t rfl ?_
    refine c_sr ?_
    refine t_as rfl rfl ?_
    refine t_ne ?_
    refine c_ret ?_
    refine x_then_ret ?_
    subst hc1
    obtain rfl := hR.none_nil
    obtain rfl : n = 0 := by simp at hl; omega
    refine x_drop (hp' := []) (by repeat (first | exact List.Sublist.refl _ | exact List.nil_sublist _ | exact List.sublist_append_left _ _ | exact List.sublist_append_right _ _ | exact (List.sublist_append_right _ _).trans (List.sublist_append_right _ _) | apply List.Sublist.cons_cons | apply List.Sublist.cons)) ?_
    exact ret1 (Base.Le.refl _) rfl rfl (Seg0.nil)
  ·
    refine t_ne ?_
    refine c_cond_f rfl ?_
    refine c_skip ?_
    refine x_then_normal ?_
    refine c_sr ?_
    refine t_do rfl (u_bslice (el := 83) [] [] rfl (fun _ => by kernel_rfl)) ?_
    rintro _ _ ⟨g0, rfl, rfl⟩
    refine t_mv rfl rfl ?_
    refine t_do rfl (u_app0 xs sl45 inf83 rfl (by decide) rfl rfl hl (fun w ho => hR.old ho) hn.2 hn.1) ?_
    rintro _ _ ⟨hs, rfl, hseg⟩
    refine t_as rfl rfl ?_
    refine t_ne ?_
    refine c_ret ?_
    refine x_drop (hp' := hs) (by repeat (first | exact List.Sublist.refl _ | exact List.nil_sublist _ | exact List.sublist_append_left _ _ | exact List.sublist_append_right _ _ | exact (List.sublist_append_right _ _).trans (List.sublist_append_right _ _) | apply List.Sublist.cons_cons | apply List.Sublist.cons)) ?_
    exact ret1 (Base.Le.refl _) rfl rfl hseg

set_option maxRecDepth 20000 in
theorem cSlicesClone_3 (b : Base) (R : Hp) (d e f) (i : FZ rApiStop b.w e f d) (a) (hm : mSlicesClone_3 d = some a):
    CallsG Tryd.prog 83 [sv e d f] b (R) (fun v b' hp' => ∃ g h c, sv g a h = v ∧ (c ++ R) = hp' ∧ OS 83 (OT.fr rApiStop) b'.w (sv g a h) a c) := by
 unfold mSlicesClone_3 at hm
 obtain ⟨_, hroom, hm⟩ := bS hm
 have hroom := room_some hroom
 obtain rfl := o1 hm
 exact clone_of (r := rApiStop) (sz := 4) (by_ := 32) rfl (by decide) clSlicesClone_3 i hroom

set_option maxRecDepth 20000 in
theorem clSlicesClone_4 (A : Option Addr) (n c : Nat) (xs : List Value) (w : World) (hR : Rd w A xs) (hl : xs.length = n * 1) (hn : n * 8 ≤ 140737488355328 ∧ n ≤ 9223372036854775807) :
    CallsH Tryd.prog 84 [.slice A n c] w [] (fun v hp' => Seg0 3 1 v n xs hp') := by
  refine fn_enter 8 Tryd.func84 rfl Tryd.ntmps84 rfl ?_
  refine c_sr ?_
  refine t_as rfl rfl ?_
  refine t_ne ?_
  refine c_seq ?_
  refine c_sr ?_
  refine t_mv rfl rfl ?_
  refine t_bool rfl (st_eqnil rfl rfl sl49) (fun hc1 => ?_) (fun hc1 => ?_)
  ·
    refine t_ne ?_
    refine c_cond_t rfl ?_
    refine c_sr ?_
    refine t_as rfl rfl ?_
    refine t_ne ?_
    refine c_ret ?_
    refine x_then_ret ?_
    subst hc1
    obtain rfl := hR.none_nil
    obtain rfl : n = 0 := by simp at hl; omega
    refine x_drop (hp' := []) (by repeat (first | exact List.Sublist.refl _ | exact List.nil_sublist _ | exact List.sublist_append_left _ _ | exact List.sublist_append_right _ _ | exact (List.sublist_append_right _ _).trans (List.sublist_append_right _ _) | apply List.Sublist.cons_cons | apply List.Sublist.cons)) ?_
    exact ret1 (Base.Le.refl _) rfl rfl (Seg0.nil)
  ·
    refine t_ne ?_
    refine c_cond_f rfl ?_
    refine c_skip ?_
    refine x_then_normal ?_
    refine c_sr ?_
    refine t_do rfl (u_bslice (el := 3) [] [] rfl (fun _ => by kernel_rfl)) ?_
    rintro _ _ ⟨g0, rfl, rfl⟩
    refine t_mv rfl rfl ?_
    refine t_do rfl (u_app0 xs sl49 inf3 rfl (by decide) rfl rfl hl (fun w ho => hR.old ho) hn.2 hn.1) ?_
    rintro _ _ ⟨hs, rfl, hseg⟩
    refine t_as rfl rfl ?_
    refine t_ne ?_
    refine c_ret ?_
    refine x_drop (hp' := hs) (by repeat (first | exact List.Sublist.refl _ | exact List.nil_sublist _ | exact List.sublist_append_left _ _ | exact List.sublist_append_right _ _ | exact (List.sublist_append_right _ _).trans (List.sublist_append_right _ _) | apply List.Sublist.cons_cons | apply List.Sublist.cons)) ?_
    exact ret1 (Base.Le.refl _) rfl rfl hseg

set_option maxRecDepth 20000 in
theorem cSlicesClone_4 (b : Base) (R : Hp) (d e f) (i : FZ rI b.w e f d) (a) (hm : mSlicesClone_4 d = some a):
    CallsG Tryd.prog 84 [sv e d f] b (R) (fun v b' hp' => ∃ g h c, sv g a h = v ∧ (c ++ R) = hp' ∧ OS 3 (OT.fr rI) b'.w (sv g a h) a c) := by
 unfold mSlicesClone_4 at hm
 obtain ⟨_, hroom, hm⟩ := bS hm
 have hroom := room_some hroom
 obtain rfl := o1 hm
 exact clone_of (r := rI) (sz := 1) (by_ := 8) rfl (by decide) clSlicesClone_4 i hroom

set_option maxRecDepth 20000 in
theorem cGuideOwn (b : Base) (R : Hp) (s1 : ApiDay) (A2 c3 A5 c6) (h4 : FZ rApiTrain b.w A2 c3 s1.Trains) (h7 : FZ (RT.list rI) b.w A5 c6 s1.Turns) (aC aD) (hm : mGuideOwn s1 = some (aC, aD)):
    CallsG Tryd.prog 55 [.agg #[sv A2 s1.Trains c3, sv A5 s1.Turns c6]] b (R) (fun v b' hp' => ∃ aM aN aO aP, .agg #[sv aM aC aN, sv aO aD aP] = v ∧ R = hp' ∧ FZ rApiTrain b'.w aM aN aC ∧ FZ (RT.list rI) b'.w aO aP aD) := by
 refine fE 83 Tryd.func55 rfl Tryd.ntmps55 rfl ?_
 unfold mGuideOwn at hm
 refine Cr<|tD (uB _ rfl rfl) ?_
 rintro _ _ ⟨s, rfl, rfl⟩
 refine tD (uA [sn, sn] zero25 rfl) ?_
 rintro _ _ ⟨t, rfl, rfl⟩
 refine Te ?_
 obtain ⟨⟨K, x⟩, a8, a9⟩ := bS hm
 refine Cj (fun ae e' hp' => ∃ aq ar J y z a, [(1, pb s), (2, pb t)] = e' ∧ (s, Cl 25 [sv aq K ar, sv y x z]) :: (t, Cl 25 [sn, sn]) :: (J ++ (a ++ R)) = hp' ∧ b.Le ae ∧ OS 47 (OT.fr rApiTrain) ae.w (sv aq K ar) K J ∧ OS 49 (OT.fr (RT.list rI)) ae.w (sv y x z) x a) ?_ ?_
 have hm := a8
 obtain ⟨bJ, aQ, hm⟩ := bS hm
 obtain ⟨bK, aR, hm⟩ := bS hm
 refine Di mixed (.refl _)<|E0 0 rfl (sF rfl fld25_0)<|Es 1 rfl (sL 1 rfl one22 rfl rfl)<|E0 3 rfl (sF rfl fld25_1)<|Es 4 rfl (sL 1 rfl one23 rfl rfl)<|Eo<|Da [2] (by kernel_rfl) rfl ?_
 refine Rg lr rfl rfl _ call19 rfl (cSlicesClone _ _ s1.Trains A2 c3 h4 bJ aQ) ?_ ?_
 rintro _ dk _ n ⟨bL, bM, ac, rfl, rfl, bN⟩
 refine iR<|d_in1 [] [_, _] ac R rfl<|Ei n (.cons_cons _ (.cons_cons _ (ss ac (.refl _))))<|E0 6 rfl (sF rfl fld25_0)<|Eo<|Da [5] (by kernel_rfl) rfl ?_
 refine Rg n rfl rfl _ call82 rfl (cSlicesClone_2 _ _ s1.Turns A5 c6 (h7.le n) bK aR) ?_ ?_
 rintro _ dl _ A ⟨bO, bP, aH, rfl, rfl, bQ⟩
 refine iR<|d_in1 [] [_, _] aH (ac ++ R) rfl<|Da [7] (by kernel_rfl) rfl ?_
 refine Rd2 (n.trans A) rfl rfl (uS 1 rfl rfl siz22 rfl rfl (by simp)) ?_ ?_
 rintro _ _ rfl
 refine ⟨.inl (by kernel_rfl), ?_⟩
 refine El (n.trans A)<|E0 8 rfl (sF rfl fld25_1)<|Eo<|Da [9] (by kernel_rfl) rfl ?_
 refine Rd2 (n.trans A) rfl rfl (uS 1 rfl rfl siz23 rfl rfl (by simp)) ?_ ?_
 rintro _ _ rfl
 refine ⟨.inl (by kernel_rfl), ?_⟩
 refine Dd (by kernel_rfl) ?_
 obtain ⟨rfl, rfl⟩ := some2 hm
 exact jJ ⟨bL, bM, ac, bO, bP, aH, rfl, rfl, (n.trans A), (bN.le A), bQ⟩
 exact Rn
 exact Rn
 exact Rn
 exact Rn
 rintro ae _ _ ⟨aq, ar, J, y, z, a, rfl, rfl, aT, aU, aV⟩
 have hm := (unc2E a9)
 refine Cs<|Cr<|tS (sF rfl fld25_0)<|tS (sL 0 rfl one22 rfl rfl)<|tS (sE rfl sl22)<|mV rfl<|Te<|Cb ?_
 have cU : K.length ≤ 9223372036854775807 := (OS.len aU)
 refine Cp 1 rfl<|Cp 1 rfl<|c_front2 [_, _] J a R rfl<|c_front2 [_, _] a J R rfl ?_
 obtain ⟨i, ba, bb⟩ := bS hm
 refine lS (fun af => fun i => fun Y e' hp' => ∃ j k g, [(1, pb s), (2, pb t), (17, iv ((K.length : Int))), (18, iv ((af : Int)))] = e' ∧ (s, Cl 25 [sv j i k, sv y x z]) :: (t, Cl 25 [sn, sn]) :: (g ++ (a ++ R)) = hp' ∧ ae.Le Y ∧ OS 47 (OT.fr rApiTrain) Y.w (sv j i k) i g) ba ⟨aq, ar, J, rfl, rfl, lr, aU⟩ ?_ ?_
 rintro af i Y _ _ cV cG ⟨j, k, g, rfl, rfl, L, aE⟩ Z
 unfold mGuideOwn_L1931 at Z
 have hm := Z
 refine Cr<|tS (lT rfl rfl (by omega))<|Te<|Cs<|c_cond_t rfl<|Ck<|Xn<|Cs<|Cb<|Cr ?_
 refine mV rfl<|aS rfl<|Te<|Cr<|tS (sF rfl fld25_0)<|tS (sL 0 rfl one22 rfl rfl)<|mV rfl ?_
 obtain ⟨e, bR, hm⟩ := bS hm
 obtain ⟨ag, aW, X2872, cW, Y2874, cX, c, d, bc, hX2879, bd, be, hij2882, hfl2883⟩ := OS.out (sz := 4) rfl (by decide) aE bR
 obtain ⟨⟨_, _, rfl, rfl, ⟨_, _, rfl, rfl, ⟨_, _, rfl, ⟨bT, bU, rfl, bV⟩, ⟨bW, bX, rfl, bY⟩⟩⟩⟩, rfl⟩ := be
 refine tS (st_indexX bc hij2882 rfl rfl sl22)<|t_outX0 [_, _] g c d (a ++ R) rfl bd<|aS rfl<|Te ?_
 obtain ⟨⟨o, ah⟩, bf, bg⟩ := bS hm
 refine Cj (fun ai e' hp' => ∃ B C f au av r, [(1, pb s), (2, pb t), (4, .pointer (some ⟨ag, aW + 0, none⟩)), (17, iv ((K.length : Int))), (18, iv ((af : Int)))] = e' ∧ (s, Cl 25 [sv j i k, sv y x z]) :: (t, Cl 25 [sn, sn]) :: (ag, Cl 47 (X2872 ++ ([iv e.No, iv e.Stock, sv B o C, sv au ah av] ++ Y2874))) :: (a ++ (f ++ (r ++ ((c ++ d) ++ R)))) = hp' ∧ Y.Le ai ∧ OS 83 (OT.fr rApiStop) ai.w (sv B o C) o f ∧ OS 49 (OT.fr (RT.list rI)) ai.w (sv au ah av) ah r) ?_ ?_
 have hm := bf
 obtain ⟨bZ, aX, hm⟩ := bS hm
 obtain ⟨b0, aY, hm⟩ := bS hm
 refine Di mixed (.refl _)<|E0 0 rfl (sM rfl)<|E0 1 rfl (sM rfl)<|E0 2 rfl (sM rfl)<|E0 3 rfl (sN rfl)<|E0 4 rfl (sF rfl fld47_2)<|Es 5 rfl (st_loadX 0 2 hX2879 rfl one45 rfl rfl)<|E0 7 rfl (sM rfl)<|E0 8 rfl (sN rfl)<|E0 9 rfl (sF rfl fld47_3) ?_
 refine Es 10 rfl (st_loadX 0 3 hX2879 rfl one23 rfl rfl)<|Eo<|Da [6] (by kernel_rfl) rfl ?_
 refine Rg lr rfl rfl _ call83 rfl (cSlicesClone_3 _ _ e.Stops bT bU bV bZ aX) ?_ ?_
 rintro _ dm _ p ⟨b1, b2, ad, rfl, rfl, b3⟩
 refine iR<|d_in1 [] [_, _, _] ad ((c ++ d) ++ (a ++ R)) rfl<|Da [11] (by kernel_rfl) rfl ?_
 refine Rg p rfl rfl _ call82 rfl (cSlicesClone_2 _ _ e.Legs bW bX (bY.le p) b0 aY) ?_ ?_
 rintro _ dn _ u ⟨b4, b5, aw, rfl, rfl, b6⟩
 refine iR<|d_in1 [] [_, _, _] aw (ad ++ ((c ++ d) ++ (a ++ R))) rfl<|Ei (p.trans u) (.cons_cons _ (.cons_cons _ (.cons_cons _ (ss aw (ss ad (.refl _))))))<|E0 12 rfl (sN rfl)<|E0 13 rfl (sF rfl fld47_2)<|Eo<|Da [14] (by kernel_rfl) rfl ?_
 refine Rd2 (p.trans u) rfl rfl (u_storeX 0 2 hX2879 rfl rfl siz45 rfl rfl (by simp)) ?_ ?_
 rintro _ _ rfl
 refine ⟨.inl (by kernel_rfl), ?_⟩
 refine El (p.trans u)<|E0 15 rfl (sN rfl)<|E0 16 rfl (sF rfl fld47_3)<|Eo<|Da [17] (by kernel_rfl) rfl ?_
 refine Rd2 (p.trans u) rfl rfl (u_storeX 0 3 hX2879 rfl rfl siz23 rfl rfl (by simp)) ?_ ?_
 rintro _ _ rfl
 refine ⟨.inl (by kernel_rfl), ?_⟩
 refine Dd (by kernel_rfl) ?_
 obtain ⟨rfl, rfl⟩ := some2 hm
 exact jJ ⟨b1, b2, ad, b4, b5, aw, rfl, rfl, (p.trans u), (b3.le u), b6⟩
 exact Rn
 exact Rn
 exact Rn
 exact Rn
 rintro ai _ _ ⟨B, C, f, au, av, r, rfl, rfl, aB, b7, aZ⟩
 have hm := (unc2E bg)
 refine Cr<|mV rfl<|tS (sN rfl)<|tS (sF rfl fld47_3)<|tS (st_loadX 2 3 hX2879 rfl one23 rfl rfl)<|tS (sE rfl sl23)<|mV rfl<|Te<|Cb ?_
 have cY : ah.length ≤ 9223372036854775807 := (OS.len aZ)
 refine Cp 2 rfl<|Cp 2 rfl<|Cp 2 rfl<|c_front4 [_, _, _] a f r (c ++ d) R rfl<|c_front4 [_, _, _] (c ++ d) a f r R rfl<|c_front4 [_, _, _] r (c ++ d) a f R rfl<|c_front4 [_, _, _] f r (c ++ d) a R rfl ?_
 obtain ⟨q, bh, bi⟩ := bS hm
 refine lS (fun aF => fun q => fun ax e' hp' => ∃ D E h, [(1, pb s), (2, pb t), (4, .pointer (some ⟨ag, aW + 0, none⟩)), (17, iv ((K.length : Int))), (18, iv ((af : Int))), (45, iv ((ah.length : Int))), (46, iv ((aF : Int)))] = e' ∧ (s, Cl 25 [sv j i k, sv y x z]) :: (t, Cl 25 [sn, sn]) :: (ag, Cl 47 (X2872 ++ ([iv e.No, iv e.Stock, sv B o C, sv D q E] ++ Y2874))) :: (a ++ (f ++ (h ++ ((c ++ d) ++ R)))) = hp' ∧ ai.Le ax ∧ OS 49 (OT.fr (RT.list rI)) ax.w (sv D q E) q h) bh ⟨au, av, r, rfl, rfl, lr, aZ⟩ ?_ ?_
 rintro aF q ax _ _ cZ cH ⟨D, E, h, rfl, rfl, F, aj⟩ aa
 unfold mGuideOwn_L2969 at aa
 have hm := aa
 refine Cr<|tS (lT rfl rfl (by omega))<|Te<|Cs<|c_cond_t rfl<|Ck<|Xn<|Cs<|Cb<|Cr ?_
 refine mV rfl<|aS rfl<|Te ?_
 obtain ⟨b8, b9, hm⟩ := bS hm
 obtain ⟨ak, a0, hm⟩ := bS hm
 obtain ⟨dp, ca, hm⟩ := bS hm
 refine c_front3 [_, _, _] a f h ((c ++ d) ++ R) rfl<|Di mixed (.refl _)<|E0 0 rfl (sM rfl)<|E0 1 rfl (sN rfl)<|E0 2 rfl (sF rfl fld47_3)<|Es 3 rfl (st_loadX 2 3 hX2879 rfl one23 rfl rfl)<|E0 4 rfl (sM rfl)<|E0 5 rfl (sM rfl)<|E0 6 rfl (sN rfl)<|E0 7 rfl (sF rfl fld47_3) ?_
 refine Es 8 rfl (st_loadX 2 3 hX2879 rfl one23 rfl rfl)<|E0 9 rfl (sM rfl) ?_
 obtain ⟨cb, bj, bk⟩ := iS b9
 obtain ⟨c0, c1, dq, dr, c2, bl, a1, bm, a2, c4, cK⟩ := OS.get (sz := 1) rfl (by decide) aj bk
 obtain ⟨⟨cc, cd, rfl, ce⟩, rfl⟩ := bl
 refine E0 10 rfl (sI cb rfl rfl bj a2 bm sl23)<|Es 11 rfl (st_load_rd rfl one49 (fun w ho => a1 w _ ho (.cons _ (.cons _ (.cons _ (List.sublist_append_left _ _)))) 0 _ rfl))<|Eo<|Da [12] (by kernel_rfl) rfl ?_
 refine Rg lr rfl rfl _ call84 rfl (cSlicesClone_4 _ _ b8 cc cd ce ak a0) ?_ ?_
 rintro _ ds _ O ⟨cf, cg, ay, rfl, rfl, ch⟩
 refine iR<|d_in1 [] [_, _, _] ay (h ++ (a ++ (f ++ ((c ++ d) ++ R)))) rfl ?_
 obtain ⟨ci, aI, aJ⟩ := iS ca
 obtain ⟨c5, c7, dt, du, c8, bn, cO, bo, a3, c9, cP⟩ := OS.get (sz := 1) rfl (by decide) aj aJ
 obtain ⟨⟨dv, dw, rfl, dx⟩, rfl⟩ := bn
 refine Ei O (.cons_cons _ (.cons_cons _ (.cons_cons _ (ss ay (.refl _)))))<|E0 13 rfl (sI ci rfl rfl aI a3 bo sl23)<|Eo<|d_frz [_, _, _] ay (h ++ (a ++ (f ++ ((c ++ d) ++ R)))) rfl ?_
 intro dy S bp
 have cj := OS.frz (l := ak) ch S.cells bp
 refine Da [14] (by kernel_rfl) rfl ?_
 refine Rd2 (O.trans S) rfl rfl (uP aI (sz := 1) (a' := ak) rfl [_, _, _] (a ++ (f ++ ((c ++ d) ++ R))) 0 1 [sv cf ak cg] rfl (aj.le (O.trans S)) aJ rfl rfl rfl siz49 rfl (mc rfl mn) (fun cs hsj hh => by obtain ⟨⟨dz, dA, rfl, dB⟩, rfl⟩ := hh; exact ⟨by first | decide | exact Nat.le_refl _, (RT.list_mk cj), rfl⟩)) ?_ ?_
 rintro _ _ ⟨bq, rfl, ck⟩
 refine ⟨.inl (by kernel_rfl), ?_⟩
 refine d_hresp 2 rfl (o' := Cl 47 (X2872 ++ ([iv e.No, iv e.Stock, sv B o C, .slice D (put q (aF : Int) ak).length E] ++ Y2874))) (by simp only [sv, put_length])<|Dd (by kernel_rfl)<|Xm<|Xn<|Cg<|tS (sa rfl rfl (by omega))<|mV rfl<|Tn ?_
 obtain rfl := o1 hm
 exact jS ⟨D, E, bq, rfl, rfl, ((F.trans (O.trans S))), ck⟩
 exact Rn
 exact Rn
 rintro ax _ _ ⟨D, E, h, rfl, rfl, F, aj⟩
 have hm := bi
 refine Cr<|tS (lF rfl rfl (by omega))<|Te<|Cs<|c_cond_f rfl<|Ce<|Xe<|Xe<|Xo<|Xm ?_
 refine Xn<|Cg<|tS (sa rfl rfl (by omega))<|mV rfl<|Tn<|X2 [_, _, _] a f (h ++ ((c ++ d) ++ R)) rfl<|x_frz [_, _, _] f (a ++ (h ++ ((c ++ d) ++ R))) rfl ?_
 intro dC T br
 have cl := OS.frz (l := o) (b7.le F) T.cells br
 refine X2 [_, _, _] a h ((c ++ d) ++ R) rfl<|x_frz [_, _, _] h (a ++ ((c ++ d) ++ R)) rfl ?_
 intro dD U bs
 have cm := OS.frz (l := q) (aj.le T) U.cells bs
 refine Xp 2 rfl<|X2 [_, _, _] a (c ++ d) R rfl ?_
 have cn := hfl2883 _ [iv e.No, iv e.Stock, sv B o C, sv D q E] (⟨e.No, e.Stock, o, q⟩ : ApiTrain) _ (aB.trans (F.trans (T.trans U))) ⟨⟨[iv e.No], _, rfl, rfl, ⟨[iv e.Stock], _, rfl, rfl, ⟨[sv B o C], _, rfl, (RT.list_mk (cl.le U)), (RT.list_mk cm)⟩⟩⟩, rfl⟩
 refine x_inX0 [_, _] c d (a ++ R) rfl<|x_hresp 0 rfl (o' := Cl 25 [.slice j (put i (af : Int) (⟨e.No, e.Stock, o, q⟩ : ApiTrain)).length k, sv y x z]) (by simp only [sv, put_length]) ?_
 obtain rfl := o1 hm
 exact jS ⟨j, k, ((ag, Cl 47 (X2872 ++ ([iv e.No, iv e.Stock, sv B o C, sv D q E] ++ Y2874))) :: (c ++ ([] ++ d))), rfl, rfl, ((L.trans (aB.trans (F.trans (T.trans U))))), cn⟩
 rintro Y _ _ ⟨j, k, g, rfl, rfl, L, aE⟩
 have hm := bb
 refine Cr<|tS (lF rfl rfl (by omega))<|Te<|Cs<|c_cond_f rfl<|Ce<|Xe<|Xe<|Xo<|Xn ?_
 refine Cs<|Cr<|tS (sF rfl fld25_1)<|tS (sL 0 rfl one23 rfl rfl)<|tS (sE rfl sl23)<|mV rfl<|Te<|Cb ?_
 have da : x.length ≤ 9223372036854775807 := (OS.len aV)
 refine Cp 1 rfl<|Cp 1 rfl<|c_front2 [_, _] g a R rfl<|c_front2 [_, _] a g R rfl ?_
 obtain ⟨G, bt, bu⟩ := bS hm
 refine lS (fun aG => fun G => fun az e' hp' => ∃ H I m, [(1, pb s), (2, pb t), (67, iv ((x.length : Int))), (68, iv ((aG : Int)))] = e' ∧ (s, Cl 25 [sv j i k, sv H G I]) :: (t, Cl 25 [sn, sn]) :: (g ++ (m ++ R)) = hp' ∧ Y.Le az ∧ OS 49 (OT.fr (RT.list rI)) az.w (sv H G I) G m) bt ⟨y, z, a, rfl, rfl, lr, (aV.le L)⟩ ?_ ?_
 rintro aG G az _ _ db cJ ⟨H, I, m, rfl, rfl, V, al⟩ ab
 unfold mGuideOwn_L3327 at ab
 have hm := ab
 refine Cr<|tS (lT rfl rfl (by omega))<|Te<|Cs<|c_cond_t rfl<|Ck<|Xn<|Cs<|Cb<|Cr ?_
 refine mV rfl<|aS rfl<|Te ?_
 obtain ⟨co, cp, hm⟩ := bS hm
 obtain ⟨am, a4, hm⟩ := bS hm
 obtain ⟨dE, cq, hm⟩ := bS hm
 refine c_front2 [_, _] g m R rfl<|Di mixed (.refl _)<|E0 0 rfl (sF rfl fld25_1)<|Es 1 rfl (sL 0 rfl one23 rfl rfl)<|E0 2 rfl (sM rfl)<|E0 3 rfl (sF rfl fld25_1)<|Es 4 rfl (sL 0 rfl one23 rfl rfl)<|E0 5 rfl (sM rfl) ?_
 obtain ⟨cr, bw, bx⟩ := iS cp
 obtain ⟨dc, dd, dF, dH, de, bz, a5, bA, a6, df, cQ⟩ := OS.get (sz := 1) rfl (by decide) al bx
 obtain ⟨⟨ct, cu, rfl, cv⟩, rfl⟩ := bz
 refine E0 6 rfl (sI cr rfl rfl bw a6 bA sl23)<|Es 7 rfl (st_load_rd rfl one49 (fun w ho => a5 w _ ho (.cons _ (.cons _ (List.sublist_append_left _ _))) 0 _ rfl))<|Eo<|Da [8] (by kernel_rfl) rfl ?_
 refine Rg lr rfl rfl _ call84 rfl (cSlicesClone_4 _ _ co ct cu cv am a4) ?_ ?_
 rintro _ dI _ W ⟨cw, cx, aA, rfl, rfl, cy⟩
 refine iR<|d_in1 [] [_, _] aA (m ++ (g ++ R)) rfl ?_
 obtain ⟨cz, aK, aL⟩ := iS cq
 obtain ⟨dg, dh, dJ, dK, di, bB, cR, bC, a7, dj, cT⟩ := OS.get (sz := 1) rfl (by decide) al aL
 obtain ⟨⟨dL, dM, rfl, dN⟩, rfl⟩ := bB
 refine Ei W (.cons_cons _ (.cons_cons _ (ss aA (.refl _))))<|E0 9 rfl (sI cz rfl rfl aK a7 bC sl23)<|Eo<|d_frz [_, _] aA (m ++ (g ++ R)) rfl ?_
 intro dO X bD
 have cA := OS.frz (l := am) cy X.cells bD
 refine Da [10] (by kernel_rfl) rfl ?_
 refine Rd2 (W.trans X) rfl rfl (uP aK (sz := 1) (a' := am) rfl [_, _] (g ++ R) 0 1 [sv cw am cx] rfl (al.le (W.trans X)) aL rfl rfl rfl siz49 rfl (mc rfl mn) (fun cs hsj hh => by obtain ⟨⟨dP, dQ, rfl, dR⟩, rfl⟩ := hh; exact ⟨by first | decide | exact Nat.le_refl _, (RT.list_mk cA), rfl⟩)) ?_ ?_
 rintro _ _ ⟨bE, rfl, cC⟩
 refine ⟨.inl (by kernel_rfl), ?_⟩
 refine d_hresp 0 rfl (o' := Cl 25 [sv j i k, .slice H (put G (aG : Int) am).length I]) (by simp only [sv, put_length])<|Dd (by kernel_rfl)<|Xm<|Xn<|Cg<|tS (sa rfl rfl (by omega))<|mV rfl<|Tn ?_
 obtain rfl := o1 hm
 exact jS ⟨H, I, bE, rfl, rfl, ((V.trans (W.trans X))), cC⟩
 exact Rn
 exact Rn
 rintro az _ _ ⟨H, I, m, rfl, rfl, V, al⟩
 have hm := bu
 refine Cr<|tS (lF rfl rfl (by omega))<|Te<|Cs<|c_cond_f rfl<|Ce<|Xe<|Xe<|Xo<|Xn ?_
 refine Cr<|tS (sD (vs := [_, _]) 0 2 rfl agg25 rfl rfl rfl)<|tD (uN (vs := [_, _]) 1 2 rfl rfl rfl siz25 rfl (mc rfl (mc rfl mn)) rfl (by simp)) ?_
 rintro _ _ rfl
 refine Te<|Ct<|x_frz [_, _] g (m ++ R) rfl ?_
 intro dS an bG
 have cD := OS.frz (l := i) (aE.le V) an.cells bG
 refine x_frz [_, _] m R rfl ?_
 intro dT ao bH
 have cE := OS.frz (l := G) (al.le an) ao.cells bH
 obtain ⟨rfl, rfl⟩ := some2 hm
 have bI := (cD.le ao)
 exact rM (rs := [.cell 2 25]) (vs := [.agg #[sv j i k, sv H G I]]) ⟨⟨_, rfl, fun w ho => cell_agg (vs := [_, _]) 1 2 agg25 rfl rfl rfl w ho⟩, trivial⟩ ⟨j, k, H, I, rfl, rfl, bI, cE⟩ (.cons _ (.cons _ (.refl _))) (aT.trans (L.trans (V.trans (an.trans ao))))

set_option maxRecDepth 20000 in
theorem cGuideNewDesk (b : Base) (R : Hp) (hG : GOn GT b) (m : ApiDay) (n G H I J) (T : FZ rApiTrain b.w G H m.Trains) (U : FZ (RT.list rI) b.w I J m.Turns) (o p x y a c) (hm : mGuideNewDesk m n = some (o, p, x, y, a, c)):
    CallsG Tryd.prog 21 [.agg #[sv G m.Trains H, sv I m.Turns J], iv n] b (R) (fun v b' hp' => ∃ z A B C D q E k r F l, .tuple #[pb z, iv 0] = v ∧ (z, Cl 116 [sv A o B, sv C p D, iv x, iv y, sv q a E, sv r c F]) :: (k ++ (l ++ R)) = hp' ∧ FZ rApiTrain b'.w A B o ∧ FZ (RT.list rI) b'.w C D p ∧ OS 119 oGuidePromise0 b'.w (sv q a E) a k ∧ (q = none ↔ a = []) ∧ OS 68 (OT.fr rGuideMessage) b'.w (sv r c F) c l ∧ (r = none ↔ c = [])) := by
 refine fE 19 Tryd.func21 rfl Tryd.ntmps21 rfl ?_
 unfold mGuideNewDesk at hm
 refine Cr<|tD (uB _ rfl rfl) ?_
 rintro _ _ ⟨V, rfl, rfl⟩
 refine aS rfl<|aS rfl<|Te<|Cs<|Cr<|tS (sD (vs := [_, _]) 0 2 rfl agg25 rfl rfl rfl)<|mV rfl ?_
 obtain ⟨K, s, hm⟩ := bS hm
 refine tD (uW _ call49 rfl (fun w ho => cGuideCheckLeast _ [] ((hG.le lr).old ho) m n G H I J (T.old ho) (U.old ho) K s) (fun _ _ _ h => h.2.symm)) ?_
 rintro _ _ ⟨⟨_, rfl, _⟩, rfl⟩
 refine aS rfl<|Te<|Cr<|mV rfl<|tS (q2 rfl rfl)<|Te ?_
 refine cI hm rfl (fun hm => ?_) fun hm => ?_
 refine Cr<|mV rfl<|aS rfl<|aS rfl<|Te<|Ct<|Xr ?_
 cases hm
 refine Ck<|Xn<|Cr<|tS (sD (vs := [_, _]) 0 2 rfl agg25 rfl rfl rfl) ?_
 obtain ⟨⟨d, e⟩, t, hm⟩ := bS hm
 have hm := (unc2E hm)
 refine Tg _ rfl call55 rfl (cGuideOwn _ _ m G H I J T U d e t) ?_
 rintro _ W _ u ⟨f, g, i, j, rfl, rfl, L, O⟩
 refine mV rfl<|tS (sB (v := .agg #[sv f d g, sv i e j, iv n]) [(0, .agg #[sv f d g, sv i e j]), (1, iv n)] rfl (fun _ => by kernel_rfl))<|tS (sB (v := .agg #[sv f d g, sv i e j, iv n, iv 0, sn, sn]) [(0, .agg #[sv f d g, sv i e j, iv n])] rfl (fun _ => by kernel_rfl))<|tD (uB _ rfl rfl) ?_
 rintro _ _ ⟨S, rfl, rfl⟩
 refine aS rfl<|aS rfl<|Te<|Ct ?_
 obtain ⟨rfl, rfl, rfl, rfl, rfl, rfl⟩ := some6 hm
 exact rT ⟨S, f, g, i, j, none, 0, [], none, 0, [], rfl, rfl, L, O, OS.nil, ⟨fun _ => rfl, fun _ => rfl⟩, OS.nil, ⟨fun _ => rfl, fun _ => rfl⟩⟩ u

set_option maxRecDepth 20000 in
theorem cGuideCheck_2 (b : Base) (R : Hp) (hG : GOn GT b) (D : ApiDay) (T O k g U V W X l m) (h4 : FZ rApiTrain b.w U V D.Trains) (h7 : FZ (RT.list rI) b.w W X D.Turns) (E : FZ rI b.w l m g) (F) (hm : mGuideCheck_2 D T O k g = some F):
    CallsG Tryd.prog 36 [.agg #[sv U D.Trains V, sv W D.Turns X], iv T, iv O, iv k, sv l g m] b (R) (fun v b' hp' => iv F = v ∧ R = hp') := by
 refine fE 41 Tryd.func36 rfl Tryd.ntmps36 rfl ?_
 unfold mGuideCheck_2 at hm
 refine Cr<|tD (uB _ rfl rfl) ?_
 rintro _ _ ⟨ag, rfl, rfl⟩
 refine aS rfl<|Te<|Cs<|Cr<|tS (sD (vs := [_, _]) 0 2 rfl agg25 rfl rfl rfl)<|mV rfl ?_
 obtain ⟨Y, r, hm⟩ := bS hm
 refine tD (uW _ call49 rfl (fun w ho => cGuideCheckLeast _ [] ((hG.le lr).old ho) D T U V W X (h4.old ho) (h7.old ho) Y r) (fun _ _ _ h => h.2.symm)) ?_
 rintro _ _ ⟨⟨_, rfl, _⟩, rfl⟩
 refine aS rfl<|Te<|Cr<|mV rfl<|tS (q2 rfl rfl)<|Te ?_
 refine cI hm rfl (fun hm => ?_) fun hm => ?_
 refine Cr<|mV rfl<|aS rfl<|Te<|Ct<|Xr ?_
 obtain rfl := o1 hm
 exact rO ⟨rfl, rfl⟩ lr
 refine Ck<|Xn<|Cs ?_
 obtain ⟨Z, G, H⟩ := bS hm
 refine Cj (fun s e' hp' => [(2, iv O), (3, iv k), (4, sv l g m), (27, bv Z)] = e' ∧ R = hp' ∧ b.Le s) ?_ ?_
 have hm := G
 refine Cg<|mV rfl ?_
 obtain ⟨I, t, hm⟩ := bS hm
 refine tD (uW _ call50 rfl (fun w ho => cGuideWithin _ [] O 0 11 I t) (fun _ _ _ h => h.2.symm)) ?_
 rintro _ _ ⟨⟨_, rfl, _⟩, rfl⟩
 rcases Bool.eq_false_or_eq_true I with f | f
 rw [if_pos f] at hm
 refine Tr 21 rfl (v' := .bool true) (by rw [f] <;> rfl)<|tS (st_not_t rfl)<|mV rfl<|yS<|mV rfl<|yS ?_
 obtain ⟨aa, u, hm⟩ := bS hm
 refine tD (uW _ call50 rfl (fun w ho => cGuideWithin _ [] k 0 11 aa u) (fun _ _ _ h => h.2.symm)) ?_
 rintro _ _ ⟨⟨_, rfl, _⟩, rfl⟩
 refine yS<|tS (sn2 rfl)<|tS (pF rfl rfl)<|Tn ?_
 obtain rfl := o1 hm
 exact jJ ⟨rfl, rfl, lr⟩
 rw [if_neg (fun hh => Bool.noConfusion (hh.symm.trans f))] at hm
 refine Tr 21 rfl (v' := .bool false) (by rw [f] <;> rfl)<|tS (st_not_f rfl)<|mV rfl<|nO<|nO<|nO<|tS (pT rfl rfl)<|Tn ?_
 obtain rfl := o1 hm
 exact jJ ⟨rfl, rfl, lr⟩
 rintro s _ _ ⟨rfl, rfl, c⟩
 have hm := H
 refine cB hm rfl (fun hm => ?_) fun hm => ?_
 refine Cr<|aS rfl<|Te<|Ct<|Xr ?_
 obtain rfl := o1 hm
 exact rO ⟨rfl, rfl⟩ c
 refine Ck<|Xn<|Cs<|Cr<|mV rfl<|mV rfl<|tS (q1 rfl rfl)<|Te ?_
 refine cI hm rfl (fun hm => ?_) fun hm => ?_
 refine Cr<|aS rfl<|Te<|Ct<|Xr ?_
 obtain rfl := o1 hm
 exact rO ⟨rfl, rfl⟩ c
 refine Ck<|Xn<|Cs<|Cr<|mV rfl<|tS (sE rfl sl49)<|mV rfl<|Te<|Cb ?_
 have ad : g.length ≤ 9223372036854775807 := (FZ.bd (E.le c))
 obtain ⟨ae, x, e⟩ := bS hm
 refine lF (fun q => fun _ => fun i e' hp' => [(31, sv l g m), (32, iv ((g.length : Int))), (33, iv ((q : Int)))] = e' ∧ R = hp' ∧ s.Le i) x ⟨rfl, rfl, lr⟩ ?_ ?_
 rintro q _ i _ _ af S ⟨rfl, rfl, a⟩ d j
 unfold mGuideCheck_2_L92 at d
 have hm := d
 refine Cr<|tS (lT rfl rfl (by omega))<|Te<|Cs<|c_cond_t rfl<|Ck<|Xn<|Cs<|Cb<|Cr ?_
 obtain ⟨J, K, ab, y, ac, z, n, A, o, hm⟩ := bF (sz := 1) hm (E.le (c.trans a))
 obtain rfl := z
 refine tS (sI K rfl rfl y o A sl49)<|tS (sO rfl one3 (n 0 _ rfl))<|aS rfl<|Te<|Cr<|mV rfl ?_
 obtain ⟨L, p, hm⟩ := bS hm
 refine tD (uW _ call50 rfl (fun w ho => cGuideWithin _ [] J 0 28800 L p) (fun _ _ _ h => h.2.symm)) ?_
 rintro _ _ ⟨⟨_, rfl, _⟩, rfl⟩
 refine tS (sn2 rfl)<|Te ?_
 refine cM hm rfl (fun hm => ?_) fun hm => ?_
 refine Cr<|aS rfl<|Te<|Ct<|Xb<|Xr<|Xr<|Xb<|Xr ?_
 have B := j _ (Option.some.inj hm).symm
 rw [B] at e
 have hm := elimR e
 obtain rfl := o1 hm
 exact rO ⟨rfl, rfl⟩ (c.trans a)
 refine Ck<|Xm<|Xn<|Cg<|tS (sa rfl rfl (by omega))<|mV rfl<|Tn ?_
 exact jM hm ⟨rfl, rfl, (a)⟩
 rintro _ i _ _ ⟨rfl, rfl, a⟩ C
 rw [C] at e
 have hm := elimL e
 refine Cr<|tS (lF rfl rfl (by omega))<|Te<|Cs<|c_cond_f rfl<|Ce<|Xe<|Xe<|Xo<|Xn ?_
 refine Cr<|aS rfl<|Te<|Ct ?_
 obtain rfl := o1 hm
 exact rO ⟨rfl, rfl⟩ (c.trans a)

set_option maxRecDepth 20000 in
theorem cGuideNetRides (b : Base) (R : Hp) (a : GuideNet) (f g c h i j k) (l : FZ rApiTrain b.w h i a.Day.Trains) (m : FZ (RT.list rI) b.w j k a.Day.Turns) (d) (hm : mGuideNetRides a f g c = some d):
    CallsG Tryd.prog 54 [.agg #[sv h a.Day.Trains i, sv j a.Day.Turns k, iv a.least], iv f, iv g, iv c] b (R) (fun v b' hp' => ∃ e, e = v ∧ R = hp' ∧ IterV Tryd.prog b' e (d.map (fun x : GuideRide => (.agg #[iv x.Train, iv x.On, iv x.Off] : Value)))) := by
 unfold mGuideNetRides at hm
 obtain rfl := o1 hm
 exact rides_of l m _ _ _

set_option maxRecDepth 20000 in
theorem cGuideNetBehind (b : Base) (R : Hp) (c : GuideNet) (h : GuideRide) (m n o p) (w : FZ rApiTrain b.w m n c.Day.Trains) (y : FZ (RT.list rI) b.w o p c.Day.Turns) (i) (hm : mGuideNetBehind c h = some i):
    CallsG Tryd.prog 67 [.agg #[sv m c.Day.Trains n, sv o c.Day.Turns p, iv c.least], .agg #[iv h.Train, iv h.On, iv h.Off]] b (R) (fun v b' hp' => ∃ j, j = v ∧ R = hp' ∧ IterV Tryd.prog b' j (i.map (fun x : GuideRide => (.agg #[iv x.Train, iv x.On, iv x.Off] : Value)))) := by
 refine fE 20 Tryd.func67 rfl Tryd.ntmps67 rfl ?_
 unfold mGuideNetBehind at hm
 refine Cr<|tD (uB _ rfl rfl) ?_
 rintro _ _ ⟨z, rfl, rfl⟩
 refine tD (uB _ rfl rfl) ?_
 rintro _ _ ⟨A, rfl, rfl⟩
 refine aS rfl<|Te<|Cr<|tS (sD (vs := [_, _, _]) 1 3 rfl agg91 rfl rfl rfl)<|tS (sD (vs := [_, _, _]) 0 3 rfl agg86 rfl rfl rfl) ?_
 obtain ⟨⟨k, q, l, r⟩, d, hm⟩ := bS hm
 have hm := (unc4E hm)
 refine Tg _ rfl call61 rfl (cGuideNetOff _ _ c h m n o p w y k q l r d) ?_
 rintro _ B _ a ⟨rfl, rfl⟩
 refine tD (uA [iv 0, iv 0, iv 0, iv 0] zero83 rfl) ?_
 rintro _ _ ⟨C, rfl, rfl⟩
 refine tD (uN (vs := [_, _, _, _]) 0 4 rfl rfl rfl siz83 rfl (mc rfl (mc rfl (mc rfl (mc rfl mn)))) rfl (by simp)) ?_
 rintro _ _ rfl
 refine Te<|Cr<|tS (sD (vs := [_, _, _]) 2 3 rfl agg91 rfl rfl rfl)<|tS (sF rfl fld83_0)<|tS (sL 0 rfl one3 rfl rfl)<|tS (sF rfl fld83_2)<|tS (sL 0 rfl one3 rfl rfl)<|tS (sF rfl fld91_1)<|tS (sL 2 rfl one3 rfl rfl) ?_
 obtain ⟨_, e, hm⟩ := bS hm
 have e := (kS e).2
 refine tS (sa rfl rfl e)<|tS (sF rfl fld86_0)<|tS (sL 1 rfl one3 rfl rfl) ?_
 obtain ⟨s, f, hm⟩ := bS hm
 refine Tg _ rfl call54 rfl (cGuideNetRides _ _ c k (l + c.least) h.Train m n o p (w.le a) (y.le a) s f) ?_
 rintro _ D _ g ⟨t, rfl, rfl, u⟩
 refine aS rfl<|Te<|Ct ?_
 obtain rfl := o1 hm
 exact rO ⟨t, rfl, rfl, u⟩ (a.trans g)

set_option maxRecDepth 20000 in
theorem cSlicesAppendSeq (b : Base) (R : Hp) (J G) (K : Value) (H I s) (T : IterV Tryd.prog b K (J.map (fun x : GuideRide => (.agg #[iv x.Train, iv x.On, iv x.Off] : Value)))) (U : OS 86 (OT.fr rGuideRide) b.w (sv H G I) G s) (m) (hm : mSlicesAppendSeq J G = some m):
    CallsG Tryd.prog 80 [sv H G I, K] b ((s ++ R)) (fun v b' hp' => ∃ z A o, sv z m A = v ∧ (o ++ R) = hp' ∧ OS 86 (OT.fr rGuideRide) b'.w (sv z m A) m o) := by
 refine fE 13 Tryd.func80 rfl Tryd.ntmps80 rfl ?_
 unfold mSlicesAppendSeq at hm
 refine Cr<|tD (uB _ rfl rfl) ?_
 rintro _ _ ⟨B, rfl, rfl⟩
 refine aS rfl<|Te<|Cs<|Cr<|mV rfl<|Te<|Cb ?_
 obtain ⟨V, C, p⟩ := bS hm
 refine c_rangeM (fun x : GuideRide => (.agg #[iv x.Train, iv x.On, iv x.Off] : Value)) (fun e => fun n hp' => ∃ g h d, (B, Cl 31 [sv g e h]) :: (d ++ R) = hp' ∧ b.Le n ∧ OS 86 (OT.fr rGuideRide) n.w (sv g e h) e d) rfl T C (e' := [(2, pb B)]) ⟨rfl, trivial⟩ (.refl _) rfl (fun dk hdk => ⟨H, I, s, rfl, Base.Le.dks hdk, U⟩) ?_ ?_ (fun x hx => lr.dk x hx)
 rintro W X a e n Y _ L ⟨g, h, d, rfl, f, t⟩ j c D
 unfold mSlicesAppendSeq_L63 at c
 have hm := c
 refine Cg<|tD (uA [iv 0, iv 0, iv 0] zero86 rfl) ?_
 rintro _ _ ⟨O, rfl, rfl⟩
 refine tD (uN (vs := [_, _, _]) 0 3 rfl rfl rfl siz86 rfl (mc rfl (mc rfl (mc rfl mn))) rfl (by simp)) ?_
 rintro _ _ rfl
 refine Tn<|x_begin 1 rfl<|Cb<|Cg<|tS (sL 2 rfl one31 rfl rfl)<|tS (sD (vs := [_, _, _]) 1 3 rfl agg86 rfl rfl rfl)<|tD (u_bslice (el := 86) [(0, .agg #[iv a.Train, iv a.On, iv a.Off])] [iv a.Train, iv a.On, iv a.Off] rfl (fun _ => by kernel_rfl)) ?_
 rintro _ _ ⟨S, rfl, rfl⟩
 obtain ⟨_, k, hm⟩ := bS hm
 have k := room_some k
 refine tD (uQ (r := rGuideRide) (l := e) [_, _, _, _] R [[iv a.Train, iv a.On, iv a.Off]] [a] rfl (by decide) sl31 inf86 rfl rfl rfl rfl (t.le j) rfl (fun w ho => Rd.own (i := 0) ho rfl) ⟨⟨[iv a.Train], _, rfl, rfl, ⟨[iv a.On], _, rfl, rfl, rfl⟩⟩, trivial⟩ k) ?_
 rintro _ _ ⟨u, rfl, q⟩
 obtain ⟨E, F, rfl, _⟩ := q.form
 refine tD (uS 3 rfl rfl siz31 rfl rfl (by simp)) ?_
 rintro _ _ rfl
 refine Tn<|Xm<|Xp 3 rfl ?_
 exact x_round 2 rfl lr (.cons_cons _ (.cons _ (.cons _ (.refl _)))) ⟨(e ++ [a]), (Option.some.inj hm).symm, ⟨E, F, u, rfl, (f.trans j), q⟩⟩
 rintro e n _ ⟨g, h, d, rfl, f, t⟩ y
 rw [y] at p
 have hm := elimL p
 refine Xm<|Xn<|Cr<|tS (sL 0 rfl one31 rfl rfl)<|aS rfl<|Te<|Ct ?_
 obtain rfl := o1 hm
 exact rO ⟨g, h, d, rfl, rfl, t⟩ f

set_option maxRecDepth 20000 in
theorem cGuideNetEnds (b : Base) (R : Hp) (s1 : GuideNet) (aT A2 c3 A5 c6 A8 c9) (h4 : FZ rApiTrain b.w A2 c3 s1.Day.Trains) (h7 : FZ (RT.list rI) b.w A5 c6 s1.Day.Turns) (cX : FZ rGuideRide b.w A8 c9 aT) (bW bX bY bZ) (hm : mGuideNetEnds s1 aT = some (bW, bX, bY, bZ)):
    CallsG Tryd.prog 52 [.agg #[sv A2 s1.Day.Trains c3, sv A5 s1.Day.Turns c6, iv s1.least], sv A8 aT c9] b (R) (fun v b' hp' => ∃ b0 aU b1 aV b2 aW b3 aX, .agg #[.map (some b0), .map (some b1), .map (some b2), .map (some b3)] = v ∧ (aU ++ (aV ++ (aW ++ (aX ++ R)))) = hp' ∧ OM rGuidePlace (OT.fr RT.bool) true false b'.w b0 bW aU ∧ OM rGuidePlace (OT.fr RT.bool) true false b'.w b1 bX aV ∧ OM rGuidePlace (OT.fr RT.bool) true false b'.w b2 bY aW ∧ OM rGuidePlace (OT.fr RT.bool) true false b'.w b3 bZ aX) := by
 refine fE 48 Tryd.func52 rfl Tryd.ntmps52 rfl ?_
 unfold mGuideNetEnds at hm
 refine Cr<|tD (uB _ rfl rfl) ?_
 rintro _ _ ⟨J, rfl, rfl⟩
 refine tD (uA [.map none, .map none, .map none, .map none] zero106 rfl) ?_
 rintro _ _ ⟨K, rfl, rfl⟩
 refine Te<|Cr<|tD (uA [.map none, .map none, .map none, .map none] zero106 rfl) ?_
 rintro _ _ ⟨L, rfl, rfl⟩
 refine Te<|Cr<|mV rfl<|aS rfl<|Te<|Cs<|Cr<|mV rfl<|Te<|Cb ?_
 refine c_unroll<|Cr<|tS (lT rfl rfl (by omega))<|Te<|Cs<|c_cond_t rfl<|Ck<|Xn<|Cs<|Cb ?_
 refine Cr<|mV rfl<|aS rfl<|Te<|Cr<|mV rfl<|tD (u_mmap rGuidePlace (OT.fr RT.bool) true false [_, _, _] R rfl) ?_
 rintro _ _ ⟨aa, b8, rfl, rfl, cY⟩
 refine tS (st_baddr 0 rfl rfl rfl (by decide) arr106 rfl)<|tD (uS 0 rfl rfl siz105 rfl rfl (by simp)) ?_
 rintro _ _ rfl
 refine Te<|Cr<|aS rfl<|Te<|Cs<|Cr<|mV rfl<|tS (sE rfl sl31)<|mV rfl<|Te ?_
 refine Cb ?_
 have dz : aT.length ≤ 9223372036854775807 := (FZ.bd cX)
 refine Cp 1 rfl<|Cp 2 rfl ?_
 obtain ⟨⟨C, aY⟩, b9, ca⟩ := bS hm
 refine lS (fun b4 => unc2 fun C aY => fun aq e' hp' => ∃ ab ac g a, [(2, pb J), (4, pb K), (5, pb L), (7, iv 0), (8, sv ab C ac), (13, iv 0), (19, sv A8 aT c9), (20, iv ((aT.length : Int))), (21, iv ((b4 : Int)))] = e' ∧ (J, Cl 91 [sv A2 s1.Day.Trains c3, sv A5 s1.Day.Turns c6, iv s1.least]) :: (K, Cl 106 [.map none, .map none, .map none, .map none]) :: (L, Cl 106 [.map (some aa), .map none, .map none, .map none]) :: (g ++ (a ++ R)) = hp' ∧ b.Le aq ∧ OS 86 (OT.fr rGuideRide) aq.w (sv ab C ac) C g ∧ OM rGuidePlace (OT.fr RT.bool) true false aq.w aa aY a) b9 ⟨none, 0, [], b8, rfl, rfl, lr, OS.nil, cY⟩ ?_ ?_
 rintro b4 ⟨C, aY⟩ aq _ _ dA cZ ⟨ab, ac, g, a, rfl, rfl, p, ay, az⟩ ad
 unfold mGuideNetEnds_L763 at ad
 have hm := (unc2E ad)
 refine Cr<|tS (lT rfl rfl (by omega))<|Te<|Cs<|c_cond_t rfl<|Ck<|Xn<|Cs<|Cb<|Cr ?_
 obtain ⟨s, c0, dB, cb, dC, cc, bq, aZ, br, hm⟩ := bF (sz := 3) hm (cX.le p)
 obtain ⟨_, _, rfl, rfl, ⟨_, _, rfl, rfl, rfl⟩⟩ := cc
 refine tS (sI c0 rfl rfl cb br aZ sl31)<|tS (sP (vs := [iv s.Train, iv s.On, iv s.Off]) 3 rfl agg86 aZ rfl (fun j u hu => bq j u hu))<|tD (uA [iv 0, iv 0, iv 0] zero86 rfl) ?_
 rintro _ _ ⟨dY, rfl, rfl⟩
 refine tD (uN (vs := [_, _, _]) 0 3 rfl rfl rfl siz86 rfl (mc rfl (mc rfl (mc rfl mn))) rfl (by simp)) ?_
 rintro _ _ rfl
 refine Te<|Cr<|tS (sF rfl fld86_0)<|tS (sL 0 rfl one3 rfl rfl)<|tS (sF rfl fld86_2)<|tS (sL 0 rfl one3 rfl rfl)<|tS (sB (v := .agg #[iv s.Train, iv s.Off]) [(0, iv s.Train), (1, iv s.Off)] rfl (fun _ => by kernel_rfl))<|tD (uA [iv 0, iv 0] zero113 rfl) ?_
 rintro _ _ ⟨dZ, rfl, rfl⟩
 refine tD (uN (vs := [_, _]) 0 2 rfl rfl rfl siz113 rfl (mc rfl (mc rfl mn)) rfl (by simp)) ?_
 rintro _ _ rfl
 refine Te<|Cs<|Cs ?_
 obtain ⟨b5, c1, hm⟩ := bS hm
 refine Di mixed (.refl _)<|E0 0 rfl (sM rfl)<|E0 1 rfl (st_baddr 0 rfl rfl rfl (by decide) arr106 rfl)<|Es 2 rfl (sL 4 rfl one105 rfl rfl)<|Es 3 rfl (sD (vs := [_, _]) 0 2 rfl agg113 rfl rfl rfl) ?_
 have cd := Option.some.inj c1
 obtain ⟨b6, au, ce⟩ := OM.lookF kok113 (z0 := false) az (key := .agg #[iv s.Train, iv s.Off]) (k := (⟨s.Train, s.Off⟩ : GuidePlace)) ⟨[iv s.Train, iv s.Off], rfl, ⟨[iv s.Train], _, rfl, rfl, rfl⟩⟩ mapt105 zero4 rfl
 rw [cd] at au
 obtain rfl : b6 = bv b5 := by have au : [b6] = [bv b5] := au; injection au
 refine Es 4 rfl (st_mlook (ok := false) rfl rfl (fun w ho => ce _ w ho (.cons _ (.cons _ (.cons _ (.cons _ (.cons _ (ss g (List.sublist_append_left _ _))))))) false))<|Eo<|Dd (by kernel_rfl)<|Xn ?_
 refine cB hm rfl (fun hm => ?_) fun hm => ?_
 refine Ce<|Xe<|Xo<|Xn<|Cg<|tS (sa rfl rfl (by omega))<|mV rfl<|Tn ?_
 obtain rfl := o1 hm
 exact jS ⟨ab, ac, g, a, rfl, rfl, (p), ay, az⟩
 refine Ck<|Xn<|Cs<|Di mixed (.refl _)<|E0 0 rfl (sM rfl)<|E0 1 rfl (st_baddr 0 rfl rfl rfl (by decide) arr106 rfl)<|Es 2 rfl (sL 4 rfl one105 rfl rfl)<|Es 3 rfl (sD (vs := [_, _]) 0 2 rfl agg113 rfl rfl rfl)<|Eo<|d2 [_, _, _, _, _] g a R rfl ?_
 refine Da [4] (by kernel_rfl) rfl ?_
 refine Rd2 lr rfl rfl (u_mputF (k := (⟨s.Train, s.Off⟩ : GuidePlace)) kok113 [_, _, _, _, _] [] (g ++ R) rfl az mapt105 rfl rfl rfl (⟨[iv s.Train, iv s.Off], rfl, ⟨[iv s.Train], _, rfl, rfl, rfl⟩⟩) ⟨rfl, rfl⟩ _ (.inl rfl)) ?_ ?_
 rintro _ _ ⟨av, rfl, c2, c4⟩
 refine ⟨.inl (by kernel_rfl), ?_⟩
 refine Dd (by kernel_rfl)<|Xn<|Cg<|mV rfl<|tS (sD (vs := [_, _, _]) 2 3 rfl agg91 rfl rfl rfl)<|tS (sD (vs := [_, _, _]) 1 3 rfl agg86 rfl rfl rfl) ?_
 obtain ⟨b7, bs, hm⟩ := bS hm
 refine Tg _ rfl call67 rfl (cGuideNetBehind _ _ s1 s A2 c3 A5 c6 (h4.le p) (h7.le p) b7 bs) ?_
 rintro _ d0 _ aw ⟨c5, rfl, rfl, c7⟩
 obtain ⟨c8, bt, hm⟩ := bS hm
 refine t_front2 [_, _, _, _, _] av g R rfl<|t_out1 [] [_, _, _, _, _] g (av ++ R) rfl<|Tg _ rfl call80 rfl (cSlicesAppendSeq _ _ b7 C c5 ab ac g c7 (ay.le aw) c8 bt) ?_
 rintro _ d1 _ aL ⟨da, db, a0, rfl, rfl, dc⟩
 refine t_in1 [] [_, _, _, _, _] a0 (av ++ R) rfl<|aS rfl<|Tn<|Xm<|Xn<|Cg<|tS (sa rfl rfl (by omega))<|mV rfl<|Tn ?_
 obtain rfl := o1 hm
 exact jS ⟨da, db, a0, av, rfl, rfl, ((p.trans (aw.trans aL))), dc, (c4.le (aw.trans aL))⟩
 exact Rn
 rintro aq _ _ ⟨ab, ac, g, a, rfl, rfl, p, ay, az⟩
 have hm := (unc2E ca)
 refine Cr<|tS (lF rfl rfl (by omega))<|Te<|Cs<|c_cond_f rfl<|Ce<|Xe<|Xe<|Xo<|Xn ?_
 refine Cg<|mV rfl<|aS rfl<|Tn<|Xm<|Xn<|Cg ?_
 obtain ⟨_, a1, hm⟩ := bS hm
 have a1 := (kS a1).2
 refine tS (sa rfl rfl a1)<|mV rfl<|Tn<|x_unroll<|Cr<|tS (lT rfl rfl (by omega))<|Te<|Cs<|c_cond_t rfl<|Ck ?_
 refine Xn<|Cs<|Cb<|Cr<|mV rfl<|aS rfl<|Te<|Cr<|mV rfl<|tD (u_mmap rGuidePlace (OT.fr RT.bool) true false [_, _, _] (g ++ (a ++ R)) rfl) ?_
 rintro _ _ ⟨ar, aD, rfl, rfl, dd⟩
 refine tS (st_baddr 1 rfl rfl rfl (by decide) arr106 rfl)<|tD (uS 2 rfl rfl siz105 rfl rfl (by simp)) ?_
 rintro _ _ rfl
 refine Te<|Cr<|aS rfl<|Te<|Cs<|Cr<|mV rfl<|tS (sE rfl sl31)<|mV rfl<|Te ?_
 refine Cb ?_
 have dD : C.length ≤ 9223372036854775807 := (OS.len ay)
 refine Cp 2 rfl<|Cp 2 rfl<|Cp 2 rfl<|c_front3 [_, _, _] aD g a R rfl<|c_front3 [_, _, _] a aD g R rfl ?_
 obtain ⟨⟨t, aE⟩, bu, bw⟩ := bS hm
 refine lS (fun a2 => unc2 fun t aE => fun E e' hp' => ∃ y z e c, [(2, pb J), (4, pb K), (5, pb L), (7, iv 1), (8, sv y t z), (13, iv 1), (19, sv ab C ac), (20, iv ((C.length : Int))), (21, iv ((a2 : Int)))] = e' ∧ (J, Cl 91 [sv A2 s1.Day.Trains c3, sv A5 s1.Day.Turns c6, iv s1.least]) :: (K, Cl 106 [.map none, .map none, .map none, .map none]) :: (L, Cl 106 [.map (some aa), .map (some ar), .map none, .map none]) :: (e ++ (g ++ (a ++ (c ++ R)))) = hp' ∧ aq.Le E ∧ OS 86 (OT.fr rGuideRide) E.w (sv y t z) t e ∧ OM rGuidePlace (OT.fr RT.bool) true false E.w ar aE c) bu ⟨none, 0, [], aD, rfl, rfl, lr, OS.nil, dd⟩ ?_ ?_
 rintro a2 ⟨t, aE⟩ E _ _ dE de ⟨y, z, e, c, rfl, rfl, n, ae, af⟩ ag
 unfold mGuideNetEnds_L930 at ag
 have hm := (unc2E ag)
 refine Cr<|tS (lT rfl rfl (by omega))<|Te<|Cs<|c_cond_t rfl<|Ck<|Xn<|Cs<|Cb<|Cr ?_
 obtain ⟨i, cf, hm⟩ := bS hm
 obtain ⟨cg, bx, bz⟩ := iS cf
 obtain ⟨di, dj, dF, dH, dk, bA, a3, aM, a4, dl, df⟩ := OS.get (sz := 3) rfl (by decide) (ay.le n) bz
 obtain ⟨⟨_, _, rfl, rfl, ⟨_, _, rfl, rfl, rfl⟩⟩, rfl⟩ := bA
 refine tS (sI cg rfl rfl bx a4 aM sl31)<|tS (st_loadN_rd (vs := [iv i.Train, iv i.On, iv i.Off]) 3 rfl agg86 aM rfl (fun w ho j u hu => a3 w _ ho (.cons _ (.cons _ (.cons _ (ss e (List.sublist_append_left _ _))))) j u hu))<|tD (uA [iv 0, iv 0, iv 0] zero86 rfl) ?_
 rintro _ _ ⟨dI, rfl, rfl⟩
 refine tD (uN (vs := [_, _, _]) 0 3 rfl rfl rfl siz86 rfl (mc rfl (mc rfl (mc rfl mn))) rfl (by simp)) ?_
 rintro _ _ rfl
 refine Te<|Cr<|tS (sF rfl fld86_0)<|tS (sL 0 rfl one3 rfl rfl)<|tS (sF rfl fld86_2)<|tS (sL 0 rfl one3 rfl rfl)<|tS (sB (v := .agg #[iv i.Train, iv i.Off]) [(0, iv i.Train), (1, iv i.Off)] rfl (fun _ => by kernel_rfl))<|tD (uA [iv 0, iv 0] zero113 rfl) ?_
 rintro _ _ ⟨dJ, rfl, rfl⟩
 refine tD (uN (vs := [_, _]) 0 2 rfl rfl rfl siz113 rfl (mc rfl (mc rfl mn)) rfl (by simp)) ?_
 rintro _ _ rfl
 refine Te<|Cs<|Cs ?_
 obtain ⟨a5, ch, hm⟩ := bS hm
 refine Di mixed (.refl _)<|E0 0 rfl (sM rfl)<|E0 1 rfl (st_baddr 1 rfl rfl rfl (by decide) arr106 rfl)<|Es 2 rfl (sL 4 rfl one105 rfl rfl)<|Es 3 rfl (sD (vs := [_, _]) 0 2 rfl agg113 rfl rfl rfl) ?_
 have bB := Option.some.inj ch
 obtain ⟨a6, T, bC⟩ := OM.lookF kok113 (z0 := false) af (key := .agg #[iv i.Train, iv i.Off]) (k := (⟨i.Train, i.Off⟩ : GuidePlace)) ⟨[iv i.Train, iv i.Off], rfl, ⟨[iv i.Train], _, rfl, rfl, rfl⟩⟩ mapt105 zero4 rfl
 rw [bB] at T
 obtain rfl : a6 = bv a5 := by have T : [a6] = [bv a5] := T; injection T
 refine Es 4 rfl (st_mlook (ok := false) rfl rfl (fun w ho => bC _ w ho (.cons _ (.cons _ (.cons _ (.cons _ (.cons _ (ss e (ss g (ss a (List.sublist_append_left _ _))))))))) false))<|Eo<|Dd (by kernel_rfl)<|Xn ?_
 refine cB hm rfl (fun hm => ?_) fun hm => ?_
 refine Ce<|Xe<|Xo<|Xn<|Cg<|tS (sa rfl rfl (by omega))<|mV rfl<|Tn ?_
 obtain rfl := o1 hm
 exact jS ⟨y, z, e, c, rfl, rfl, (n), ae, af⟩
 refine Ck<|Xn<|Cs<|Di mixed (.refl _)<|E0 0 rfl (sM rfl)<|E0 1 rfl (st_baddr 1 rfl rfl rfl (by decide) arr106 rfl)<|Es 2 rfl (sL 4 rfl one105 rfl rfl)<|Es 3 rfl (sD (vs := [_, _]) 0 2 rfl agg113 rfl rfl rfl)<|Eo<|d4 [_, _, _, _, _] e g a c R rfl ?_
 refine Da [4] (by kernel_rfl) rfl ?_
 refine Rd2 lr rfl rfl (u_mputF (k := (⟨i.Train, i.Off⟩ : GuidePlace)) kok113 [_, _, _, _, _] [] (e ++ (g ++ (a ++ R))) rfl af mapt105 rfl rfl rfl (⟨[iv i.Train, iv i.Off], rfl, ⟨[iv i.Train], _, rfl, rfl, rfl⟩⟩) ⟨rfl, rfl⟩ _ (.inl rfl)) ?_ ?_
 rintro _ _ ⟨U, rfl, cR, ci⟩
 refine ⟨.inl (by kernel_rfl), ?_⟩
 refine Dd (by kernel_rfl)<|Xn<|Cg<|mV rfl<|tS (sD (vs := [_, _, _]) 2 3 rfl agg91 rfl rfl rfl)<|tS (sD (vs := [_, _, _]) 1 3 rfl agg86 rfl rfl rfl) ?_
 obtain ⟨a7, a8, hm⟩ := bS hm
 refine Tg _ rfl call67 rfl (cGuideNetBehind _ _ s1 i A2 c3 A5 c6 (h4.le (p.trans n)) (h7.le (p.trans n)) a7 a8) ?_
 rintro _ dK _ ah ⟨cj, rfl, rfl, ck⟩
 obtain ⟨cl, a9, hm⟩ := bS hm
 refine t_front2 [_, _, _, _, _] U e (g ++ (a ++ R)) rfl<|t_out1 [] [_, _, _, _, _] e (U ++ (g ++ (a ++ R))) rfl<|Tg _ rfl call80 rfl (cSlicesAppendSeq _ _ a7 t cj y z e ck (ae.le ah) cl a9) ?_
 rintro _ dL _ aA ⟨cm, cn, aN, rfl, rfl, co⟩
 refine t_in1 [] [_, _, _, _, _] aN (U ++ (g ++ (a ++ R))) rfl<|aS rfl<|Tn<|Xm<|Xn<|Cg<|tS (sa rfl rfl (by omega))<|mV rfl<|Tn ?_
 obtain rfl := o1 hm
 exact jS ⟨cm, cn, aN, U, rfl, rfl, ((n.trans (ah.trans aA))), co, (ci.le (ah.trans aA))⟩
 exact Rn
 rintro E _ _ ⟨y, z, e, c, rfl, rfl, n, ae, af⟩
 have hm := (unc2E bw)
 refine Cr<|tS (lF rfl rfl (by omega))<|Te<|Cs<|c_cond_f rfl<|Ce<|Xe<|Xe<|Xo<|Xn ?_
 refine Cg<|mV rfl<|aS rfl<|Tn<|Xm<|Xn<|Cg ?_
 obtain ⟨_, aF, hm⟩ := bS hm
 have aF := (kS aF).2
 refine tS (sa rfl rfl aF)<|mV rfl<|Tn<|x_unroll<|Cr<|tS (lT rfl rfl (by omega))<|Te<|Cs<|c_cond_t rfl<|Ck ?_
 refine Xn<|Cs<|Cb<|Cr<|mV rfl<|aS rfl<|Te<|Cr<|mV rfl<|tD (u_mmap rGuidePlace (OT.fr RT.bool) true false [_, _, _] (e ++ (g ++ (a ++ (c ++ R)))) rfl) ?_
 rintro _ _ ⟨ai, V, rfl, rfl, cp⟩
 refine tS (st_baddr 2 rfl rfl rfl (by decide) arr106 rfl)<|tD (uS 2 rfl rfl siz105 rfl rfl (by simp)) ?_
 rintro _ _ rfl
 refine Te<|Cr<|aS rfl<|Te<|Cs<|Cr<|mV rfl<|tS (sE rfl sl31)<|mV rfl<|Te ?_
 refine Cb ?_
 have dm : t.length ≤ 9223372036854775807 := (OS.len ae)
 refine Cp 2 rfl<|Cp 2 rfl<|Cp 2 rfl<|c_front5 [_, _, _] V e g a c R rfl<|c_front5 [_, _, _] c V e g a R rfl<|c_front4 [_, _, _] a c V e (g ++ R) rfl ?_
 obtain ⟨⟨x, aG⟩, bD, bE⟩ := bS hm
 refine lS (fun ba => unc2 fun x aG => fun F e' hp' => ∃ A B d f, [(2, pb J), (4, pb K), (5, pb L), (7, iv 2), (8, sv A x B), (13, iv 2), (19, sv y t z), (20, iv ((t.length : Int))), (21, iv ((ba : Int)))] = e' ∧ (J, Cl 91 [sv A2 s1.Day.Trains c3, sv A5 s1.Day.Turns c6, iv s1.least]) :: (K, Cl 106 [.map none, .map none, .map none, .map none]) :: (L, Cl 106 [.map (some aa), .map (some ar), .map (some ai), .map none]) :: (d ++ (e ++ (a ++ (c ++ (f ++ R))))) = hp' ∧ E.Le F ∧ OS 86 (OT.fr rGuideRide) F.w (sv A x B) x d ∧ OM rGuidePlace (OT.fr RT.bool) true false F.w ai aG f) bD ⟨none, 0, [], V, rfl, rfl, lr, OS.nil, cp⟩ ?_ ?_
 rintro ba ⟨x, aG⟩ F _ _ dn cT ⟨A, B, d, f, rfl, rfl, o, aj, ak⟩ O
 unfold mGuideNetEnds_L1115 at O
 have hm := (unc2E O)
 refine Cr<|tS (lT rfl rfl (by omega))<|Te<|Cs<|c_cond_t rfl<|Ck<|Xn<|Cs<|Cb<|Cr ?_
 obtain ⟨l, cq, hm⟩ := bS hm
 obtain ⟨cr, bG, bH⟩ := iS cq
 obtain ⟨dp, dq, dM, dN, dr, bI, bb, aO, bc, ds, dg⟩ := OS.get (sz := 3) rfl (by decide) (ae.le o) bH
 obtain ⟨⟨_, _, rfl, rfl, ⟨_, _, rfl, rfl, rfl⟩⟩, rfl⟩ := bI
 refine tS (sI cr rfl rfl bG bc aO sl31)<|tS (st_loadN_rd (vs := [iv l.Train, iv l.On, iv l.Off]) 3 rfl agg86 aO rfl (fun w ho j u hu => bb w _ ho (.cons _ (.cons _ (.cons _ (ss d (List.sublist_append_left _ _))))) j u hu))<|tD (uA [iv 0, iv 0, iv 0] zero86 rfl) ?_
 rintro _ _ ⟨dO, rfl, rfl⟩
 refine tD (uN (vs := [_, _, _]) 0 3 rfl rfl rfl siz86 rfl (mc rfl (mc rfl (mc rfl mn))) rfl (by simp)) ?_
 rintro _ _ rfl
 refine Te<|Cr<|tS (sF rfl fld86_0)<|tS (sL 0 rfl one3 rfl rfl)<|tS (sF rfl fld86_2)<|tS (sL 0 rfl one3 rfl rfl)<|tS (sB (v := .agg #[iv l.Train, iv l.Off]) [(0, iv l.Train), (1, iv l.Off)] rfl (fun _ => by kernel_rfl))<|tD (uA [iv 0, iv 0] zero113 rfl) ?_
 rintro _ _ ⟨dP, rfl, rfl⟩
 refine tD (uN (vs := [_, _]) 0 2 rfl rfl rfl siz113 rfl (mc rfl (mc rfl mn)) rfl (by simp)) ?_
 rintro _ _ rfl
 refine Te<|Cs<|Cs ?_
 obtain ⟨bd, cs, hm⟩ := bS hm
 refine Di mixed (.refl _)<|E0 0 rfl (sM rfl)<|E0 1 rfl (st_baddr 2 rfl rfl rfl (by decide) arr106 rfl)<|Es 2 rfl (sL 4 rfl one105 rfl rfl)<|Es 3 rfl (sD (vs := [_, _]) 0 2 rfl agg113 rfl rfl rfl) ?_
 have bJ := Option.some.inj cs
 obtain ⟨be, W, bK⟩ := OM.lookF kok113 (z0 := false) ak (key := .agg #[iv l.Train, iv l.Off]) (k := (⟨l.Train, l.Off⟩ : GuidePlace)) ⟨[iv l.Train, iv l.Off], rfl, ⟨[iv l.Train], _, rfl, rfl, rfl⟩⟩ mapt105 zero4 rfl
 rw [bJ] at W
 obtain rfl : be = bv bd := by have W : [be] = [bv bd] := W; injection W
 refine Es 4 rfl (st_mlook (ok := false) rfl rfl (fun w ho => bK _ w ho (.cons _ (.cons _ (.cons _ (.cons _ (.cons _ (ss d (ss e (ss a (ss c (List.sublist_append_left _ _)))))))))) false))<|Eo<|Dd (by kernel_rfl)<|Xn ?_
 refine cB hm rfl (fun hm => ?_) fun hm => ?_
 refine Ce<|Xe<|Xo<|Xn<|Cg<|tS (sa rfl rfl (by omega))<|mV rfl<|Tn ?_
 obtain rfl := o1 hm
 exact jS ⟨A, B, d, f, rfl, rfl, (o), aj, ak⟩
 refine Ck<|Xn<|Cs<|Di mixed (.refl _)<|E0 0 rfl (sM rfl)<|E0 1 rfl (st_baddr 2 rfl rfl rfl (by decide) arr106 rfl)<|Es 2 rfl (sL 4 rfl one105 rfl rfl)<|Es 3 rfl (sD (vs := [_, _]) 0 2 rfl agg113 rfl rfl rfl)<|Eo<|d_front5 [_, _, _, _, _] d e a c f R rfl ?_
 refine Da [4] (by kernel_rfl) rfl ?_
 refine Rd2 lr rfl rfl (u_mputF (k := (⟨l.Train, l.Off⟩ : GuidePlace)) kok113 [_, _, _, _, _] [] (d ++ (e ++ (a ++ (c ++ R)))) rfl ak mapt105 rfl rfl rfl (⟨[iv l.Train, iv l.Off], rfl, ⟨[iv l.Train], _, rfl, rfl, rfl⟩⟩) ⟨rfl, rfl⟩ _ (.inl rfl)) ?_ ?_
 rintro _ _ ⟨X, rfl, cU, ct⟩
 refine ⟨.inl (by kernel_rfl), ?_⟩
 refine Dd (by kernel_rfl)<|Xn<|Cg<|mV rfl<|tS (sD (vs := [_, _, _]) 2 3 rfl agg91 rfl rfl rfl)<|tS (sD (vs := [_, _, _]) 1 3 rfl agg86 rfl rfl rfl) ?_
 obtain ⟨bf, bg, hm⟩ := bS hm
 refine Tg _ rfl call67 rfl (cGuideNetBehind _ _ s1 l A2 c3 A5 c6 (h4.le (p.trans (n.trans o))) (h7.le (p.trans (n.trans o))) bf bg) ?_
 rintro _ dQ _ al ⟨cu, rfl, rfl, cv⟩
 obtain ⟨cw, bh, hm⟩ := bS hm
 refine t_front2 [_, _, _, _, _] X d (e ++ (a ++ (c ++ R))) rfl<|t_out1 [] [_, _, _, _, _] d (X ++ (e ++ (a ++ (c ++ R)))) rfl<|Tg _ rfl call80 rfl (cSlicesAppendSeq _ _ bf x cu A B d cv (aj.le al) cw bh) ?_
 rintro _ dR _ aB ⟨cx, cy, aP, rfl, rfl, cz⟩
 refine t_in1 [] [_, _, _, _, _] aP (X ++ (e ++ (a ++ (c ++ R)))) rfl<|aS rfl<|Tn<|Xm<|Xn<|Cg<|tS (sa rfl rfl (by omega))<|mV rfl<|Tn ?_
 obtain rfl := o1 hm
 exact jS ⟨cx, cy, aP, X, rfl, rfl, ((o.trans (al.trans aB))), cz, (ct.le (al.trans aB))⟩
 exact Rn
 rintro F _ _ ⟨A, B, d, f, rfl, rfl, o, aj, ak⟩
 have hm := (unc2E bE)
 refine Cr<|tS (lF rfl rfl (by omega))<|Te<|Cs<|c_cond_f rfl<|Ce<|Xe<|Xe<|Xo<|Xn ?_
 refine Cg<|mV rfl<|aS rfl<|Tn<|Xm<|Xn<|Cg ?_
 obtain ⟨_, aH, hm⟩ := bS hm
 have aH := (kS aH).2
 refine tS (sa rfl rfl aH)<|mV rfl<|Tn<|x_unroll<|Cr<|tS (lT rfl rfl (by omega))<|Te<|Cs<|c_cond_t rfl<|Ck ?_
 refine Xn<|Cs<|Cb<|Cr<|mV rfl<|aS rfl<|Te<|Cr<|mV rfl<|tD (u_mmap rGuidePlace (OT.fr RT.bool) true false [_, _, _] (d ++ (e ++ (a ++ (c ++ (f ++ R))))) rfl) ?_
 rintro _ _ ⟨ax, D, rfl, rfl, cA⟩
 refine tS (st_baddr 3 rfl rfl rfl (by decide) arr106 rfl)<|tD (uS 2 rfl rfl siz105 rfl rfl (by simp)) ?_
 rintro _ _ rfl
 refine Te<|Cr<|aS rfl<|Te<|Cs<|Cr<|mV rfl<|tS (sE rfl sl31)<|mV rfl<|Te ?_
 refine Cb ?_
 have dt : x.length ≤ 9223372036854775807 := (OS.len aj)
 refine Cp 2 rfl<|Cp 2 rfl<|Cp 2 rfl<|c_front6 [_, _, _] D d e a c f R rfl<|c_front6 [_, _, _] f D d e a c R rfl<|c_front6 [_, _, _] c f D d e a R rfl<|c_front5 [_, _, _] a c f D d (e ++ R) rfl ?_
 obtain ⟨⟨G, aI⟩, bL, bM⟩ := bS hm
 refine lS (fun bi => unc2 fun G aI => fun am e' hp' => ∃ H I h r, [(2, pb J), (4, pb K), (5, pb L), (7, iv 3), (8, sv H G I), (13, iv 3), (19, sv A x B), (20, iv ((x.length : Int))), (21, iv ((bi : Int)))] = e' ∧ (J, Cl 91 [sv A2 s1.Day.Trains c3, sv A5 s1.Day.Turns c6, iv s1.least]) :: (K, Cl 106 [.map none, .map none, .map none, .map none]) :: (L, Cl 106 [.map (some aa), .map (some ar), .map (some ai), .map (some ax)]) :: (h ++ (d ++ (a ++ (c ++ (f ++ (r ++ R)))))) = hp' ∧ F.Le am ∧ OS 86 (OT.fr rGuideRide) am.w (sv H G I) G h ∧ OM rGuidePlace (OT.fr RT.bool) true false am.w ax aI r) bL ⟨none, 0, [], D, rfl, rfl, lr, OS.nil, cA⟩ ?_ ?_
 rintro bi ⟨G, aI⟩ am _ _ du cV ⟨H, I, h, r, rfl, rfl, q, aJ, an⟩ S
 unfold mGuideNetEnds_L1300 at S
 have hm := (unc2E S)
 refine Cr<|tS (lT rfl rfl (by omega))<|Te<|Cs<|c_cond_t rfl<|Ck<|Xn<|Cs<|Cb<|Cr ?_
 obtain ⟨m, cC, hm⟩ := bS hm
 obtain ⟨cD, bN, bO⟩ := iS cC
 obtain ⟨dv, dw, dS, dT, dx, bP, bj, aQ, bk, dy, dh⟩ := OS.get (sz := 3) rfl (by decide) (aj.le q) bO
 obtain ⟨⟨_, _, rfl, rfl, ⟨_, _, rfl, rfl, rfl⟩⟩, rfl⟩ := bP
 refine tS (sI cD rfl rfl bN bk aQ sl31)<|tS (st_loadN_rd (vs := [iv m.Train, iv m.On, iv m.Off]) 3 rfl agg86 aQ rfl (fun w ho j u hu => bj w _ ho (.cons _ (.cons _ (.cons _ (ss h (List.sublist_append_left _ _))))) j u hu))<|tD (uA [iv 0, iv 0, iv 0] zero86 rfl) ?_
 rintro _ _ ⟨dU, rfl, rfl⟩
 refine tD (uN (vs := [_, _, _]) 0 3 rfl rfl rfl siz86 rfl (mc rfl (mc rfl (mc rfl mn))) rfl (by simp)) ?_
 rintro _ _ rfl
 refine Te<|Cr<|tS (sF rfl fld86_0)<|tS (sL 0 rfl one3 rfl rfl)<|tS (sF rfl fld86_2)<|tS (sL 0 rfl one3 rfl rfl)<|tS (sB (v := .agg #[iv m.Train, iv m.Off]) [(0, iv m.Train), (1, iv m.Off)] rfl (fun _ => by kernel_rfl))<|tD (uA [iv 0, iv 0] zero113 rfl) ?_
 rintro _ _ ⟨dV, rfl, rfl⟩
 refine tD (uN (vs := [_, _]) 0 2 rfl rfl rfl siz113 rfl (mc rfl (mc rfl mn)) rfl (by simp)) ?_
 rintro _ _ rfl
 refine Te<|Cs<|Cs ?_
 obtain ⟨bl, cE, hm⟩ := bS hm
 refine Di mixed (.refl _)<|E0 0 rfl (sM rfl)<|E0 1 rfl (st_baddr 3 rfl rfl rfl (by decide) arr106 rfl)<|Es 2 rfl (sL 4 rfl one105 rfl rfl)<|Es 3 rfl (sD (vs := [_, _]) 0 2 rfl agg113 rfl rfl rfl) ?_
 have bQ := Option.some.inj cE
 obtain ⟨bm, Y, bR⟩ := OM.lookF kok113 (z0 := false) an (key := .agg #[iv m.Train, iv m.Off]) (k := (⟨m.Train, m.Off⟩ : GuidePlace)) ⟨[iv m.Train, iv m.Off], rfl, ⟨[iv m.Train], _, rfl, rfl, rfl⟩⟩ mapt105 zero4 rfl
 rw [bQ] at Y
 obtain rfl : bm = bv bl := by have Y : [bm] = [bv bl] := Y; injection Y
 refine Es 4 rfl (st_mlook (ok := false) rfl rfl (fun w ho => bR _ w ho (.cons _ (.cons _ (.cons _ (.cons _ (.cons _ (ss h (ss d (ss a (ss c (ss f (List.sublist_append_left _ _))))))))))) false))<|Eo<|Dd (by kernel_rfl)<|Xn ?_
 refine cB hm rfl (fun hm => ?_) fun hm => ?_
 refine Ce<|Xe<|Xo<|Xn<|Cg<|tS (sa rfl rfl (by omega))<|mV rfl<|Tn ?_
 obtain rfl := o1 hm
 exact jS ⟨H, I, h, r, rfl, rfl, (q), aJ, an⟩
 refine Ck<|Xn<|Cs<|Di mixed (.refl _)<|E0 0 rfl (sM rfl)<|E0 1 rfl (st_baddr 3 rfl rfl rfl (by decide) arr106 rfl)<|Es 2 rfl (sL 4 rfl one105 rfl rfl)<|Es 3 rfl (sD (vs := [_, _]) 0 2 rfl agg113 rfl rfl rfl)<|Eo<|d_front6 [_, _, _, _, _] h d a c f r R rfl ?_
 refine Da [4] (by kernel_rfl) rfl ?_
 refine Rd2 lr rfl rfl (u_mputF (k := (⟨m.Train, m.Off⟩ : GuidePlace)) kok113 [_, _, _, _, _] [] (h ++ (d ++ (a ++ (c ++ (f ++ R))))) rfl an mapt105 rfl rfl rfl (⟨[iv m.Train, iv m.Off], rfl, ⟨[iv m.Train], _, rfl, rfl, rfl⟩⟩) ⟨rfl, rfl⟩ _ (.inl rfl)) ?_ ?_
 rintro _ _ ⟨Z, rfl, cW, cG⟩
 refine ⟨.inl (by kernel_rfl), ?_⟩
 refine Dd (by kernel_rfl)<|Xn<|Cg<|mV rfl<|tS (sD (vs := [_, _, _]) 2 3 rfl agg91 rfl rfl rfl)<|tS (sD (vs := [_, _, _]) 1 3 rfl agg86 rfl rfl rfl) ?_
 obtain ⟨bn, bo, hm⟩ := bS hm
 refine Tg _ rfl call67 rfl (cGuideNetBehind _ _ s1 m A2 c3 A5 c6 (h4.le (p.trans (n.trans (o.trans q)))) (h7.le (p.trans (n.trans (o.trans q)))) bn bo) ?_
 rintro _ dW _ ao ⟨cH, rfl, rfl, cJ⟩
 obtain ⟨cK, bp, hm⟩ := bS hm
 refine t_front2 [_, _, _, _, _] Z h (d ++ (a ++ (c ++ (f ++ R)))) rfl<|t_out1 [] [_, _, _, _, _] h (Z ++ (d ++ (a ++ (c ++ (f ++ R))))) rfl<|Tg _ rfl call80 rfl (cSlicesAppendSeq _ _ bn G cH H I h cJ (aJ.le ao) cK bp) ?_
 rintro _ dX _ aC ⟨cO, cP, aR, rfl, rfl, cQ⟩
 refine t_in1 [] [_, _, _, _, _] aR (Z ++ (d ++ (a ++ (c ++ (f ++ R))))) rfl<|aS rfl<|Tn<|Xm<|Xn<|Cg<|tS (sa rfl rfl (by omega))<|mV rfl<|Tn ?_
 obtain rfl := o1 hm
 exact jS ⟨cO, cP, aR, Z, rfl, rfl, ((q.trans (ao.trans aC))), cQ, (cG.le (ao.trans aC))⟩
 exact Rn
 rintro am _ _ ⟨H, I, h, r, rfl, rfl, q, aJ, an⟩
 have hm := (unc2E bM)
 refine Cr<|tS (lF rfl rfl (by omega))<|Te<|Cs<|c_cond_f rfl<|Ce<|Xe<|Xe<|Xo<|Xn ?_
 refine Cg<|mV rfl<|aS rfl<|Tn<|Xm<|Xn<|Cg ?_
 obtain ⟨_, aK, hm⟩ := bS hm
 have aK := (kS aK).2
 refine tS (sa rfl rfl aK)<|mV rfl<|Tn<|x_unroll<|Cr<|tS (lF rfl rfl (by omega))<|Te<|Cs<|c_cond_f rfl<|Ce ?_
 refine Xe<|Xe<|Xo<|Xn<|Cr<|tS (sD (vs := [_, _, _, _]) 2 4 rfl agg106 rfl rfl rfl)<|tD (uN (vs := [_, _, _, _]) 1 4 rfl rfl rfl siz106 rfl (mc rfl (mc rfl (mc rfl (mc rfl mn)))) rfl (by simp)) ?_
 rintro _ _ rfl
 refine Te<|Ct ?_
 obtain ⟨rfl, rfl, rfl, rfl⟩ := some4 hm
 refine X6 [_, _, _] h d a c f r R rfl<|X6 [_, _, _] r h d a c f R rfl<|X6 [_, _, _] f r h d a c R rfl<|X6 [_, _, _] c f r h d a R rfl ?_
 have bT := (az.le (n.trans (o.trans q)))
 have bU := (af.le (o.trans q))
 have bV := (ak.le q)
 exact rM (rs := [.cell 4 106]) (vs := [.agg #[.map (some aa), .map (some ar), .map (some ai), .map (some ax)]]) ⟨⟨_, rfl, fun w ho => cell_agg (vs := [_, _, _, _]) 1 4 agg106 rfl rfl rfl w ho⟩, trivial⟩ ⟨aa, a, ar, c, ai, f, ax, r, rfl, rfl, bT, bU, bV, an⟩ (.cons _ (.cons _ (.cons _ (sp a (sp c (sp f (sp r (ss h (ss d (.refl _)))))))))) (p.trans (n.trans (o.trans q)))

set_option maxRecDepth 20000 in
theorem cBitsLen64 (b : Base) (R : Hp) (C m) (hm : mBitsLen64 C = some m):
    CallsG Tryd.prog 116 [.int .u64 (C)] b (R) (fun v b' hp' => iv m = v ∧ R = hp') := by
 refine fE 25 Tryd.func116 rfl Tryd.ntmps116 rfl ?_
 unfold mBitsLen64 at hm
 refine Cr<|aS rfl<|Te ?_
 obtain ⟨⟨u, w⟩, n, o⟩ := bS hm
 refine Cj (fun a e' hp' => [(0, .int .u64 (u)), (2, iv w)] = e' ∧ R = hp' ∧ b.Le a) ?_ ?_
 have hm := n
 refine Cr<|mV rfl<|tS (q6 rfl rfl)<|Te ?_
 refine cI hm rfl (fun hm => ?_) fun hm => ?_
 refine Cr<|mV rfl ?_
 obtain ⟨_, c, hm⟩ := bS hm
 have c := shN_some c
 refine tS (st_shr rfl rfl c)<|aS rfl<|Te<|Cg<|aS rfl<|Tn ?_
 obtain ⟨rfl, rfl⟩ := some2 hm
 exact jJ ⟨rfl, rfl, lr⟩
 refine Ck ?_
 obtain ⟨rfl, rfl⟩ := some2 hm
 exact jJ ⟨rfl, rfl, lr⟩
 rintro a _ _ ⟨rfl, rfl, d⟩
 have hm := (unc2E o)
 obtain ⟨⟨x, y⟩, p, q⟩ := bS hm
 refine Cj (fun e e' hp' => [(0, .int .u64 (x)), (2, iv y)] = e' ∧ R = hp' ∧ a.Le e) ?_ ?_
 have hm := p
 refine Cr<|mV rfl<|tS (q6 rfl rfl)<|Te ?_
 refine cI hm rfl (fun hm => ?_) fun hm => ?_
 refine Cr<|mV rfl ?_
 obtain ⟨_, f, hm⟩ := bS hm
 have f := shN_some f
 refine tS (st_shr rfl rfl f)<|aS rfl<|Te<|Cg<|mV rfl ?_
 obtain ⟨_, g, hm⟩ := bS hm
 have g := (kS g).2
 refine tS (sa rfl rfl g)<|aS rfl<|Tn ?_
 obtain ⟨rfl, rfl⟩ := some2 hm
 exact jJ ⟨rfl, rfl, lr⟩
 refine Ck ?_
 obtain ⟨rfl, rfl⟩ := some2 hm
 exact jJ ⟨rfl, rfl, lr⟩
 rintro e _ _ ⟨rfl, rfl, h⟩
 have hm := (unc2E q)
 obtain ⟨⟨z, A⟩, r, s⟩ := bS hm
 refine Cj (fun t e' hp' => [(0, .int .u64 (z)), (2, iv A)] = e' ∧ R = hp' ∧ e.Le t) ?_ ?_
 have hm := r
 refine Cr<|mV rfl<|tS (q6 rfl rfl)<|Te ?_
 refine cI hm rfl (fun hm => ?_) fun hm => ?_
 refine Cr<|mV rfl ?_
 obtain ⟨_, i, hm⟩ := bS hm
 have i := shN_some i
 refine tS (st_shr rfl rfl i)<|aS rfl<|Te<|Cg<|mV rfl ?_
 obtain ⟨_, j, hm⟩ := bS hm
 have j := (kS j).2
 refine tS (sa rfl rfl j)<|aS rfl<|Tn ?_
 obtain ⟨rfl, rfl⟩ := some2 hm
 exact jJ ⟨rfl, rfl, lr⟩
 refine Ck ?_
 obtain ⟨rfl, rfl⟩ := some2 hm
 exact jJ ⟨rfl, rfl, lr⟩
 rintro t _ _ ⟨rfl, rfl, k⟩
 have hm := (unc2E s)
 refine Cr<|mV rfl<|mV rfl<|tS (st_conv rfl int173_u64 int5_u8) ?_
 obtain ⟨D, B, hm⟩ := bS hm
 refine tS (st_sidx rfl rfl B str9)<|tS (st_conv rfl int5_u8 int3_i64) ?_
 obtain ⟨_, l, hm⟩ := bS hm
 have l := (kS l).2
 refine tS (sa rfl rfl l)<|aS rfl<|Te<|Ct ?_
 obtain rfl := o1 hm
 exact rO ⟨rfl, rfl⟩ (d.trans (h.trans k))

set_option maxRecDepth 20000 in
theorem cBitsLen (b : Base) (R : Hp) (c d) (hm : mBitsLen c = some d):
    CallsG Tryd.prog 95 [.int .u64 (c)] b (R) (fun v b' hp' => iv d = v ∧ R = hp') := by
 refine fE 8 Tryd.func95 rfl Tryd.ntmps95 rfl ?_
 unfold mBitsLen at hm
 refine Cr<|aS rfl<|Te<|Cs<|c_cond_f rfl<|Ck<|Xn<|Cr<|mV rfl ?_
 obtain ⟨e, a, hm⟩ := bS hm
 refine tD (uW _ call116 rfl (fun w ho => cBitsLen64 _ [] c e a) (fun _ _ _ h => h.2.symm)) ?_
 rintro _ _ ⟨⟨_, rfl, _⟩, rfl⟩
 refine aS rfl<|Te<|Ct ?_
 obtain rfl := o1 hm
 exact rO ⟨rfl, rfl⟩ lr

set_option maxRecDepth 20000 in
theorem cCmpIsNaN (b : Base) (R : Hp) (a c) (hm : mCmpIsNaN a = some c):
    CallsG Tryd.prog 77 [iv a] b (R) (fun v b' hp' => bv c = v ∧ R = hp') := by
 refine fE 6 Tryd.func77 rfl Tryd.ntmps77 rfl ?_
 unfold mCmpIsNaN at hm
 refine Cr<|aS rfl<|Te<|Cr<|mV rfl<|mV rfl<|tS (q2 rfl rfl)<|aS rfl<|Te<|Ct ?_
 obtain rfl := o1 hm
 exact rO ⟨rfl, rfl⟩ lr

set_option maxRecDepth 20000 in
theorem cCmpCompare (b : Base) (R : Hp) (e f d) (hm : mCmpCompare e f = some d):
    CallsG Tryd.prog 44 [iv e, iv f] b (R) (fun v b' hp' => iv d = v ∧ R = hp') := by
 refine fE 20 Tryd.func44 rfl Tryd.ntmps44 rfl ?_
 unfold mCmpCompare at hm
 refine Cr<|aS rfl<|Te<|Cr<|mV rfl ?_
 obtain ⟨g, a, hm⟩ := bS hm
 refine tD (uW _ call77 rfl (fun w ho => cCmpIsNaN _ [] e g a) (fun _ _ _ h => h.2.symm)) ?_
 rintro _ _ ⟨⟨_, rfl, _⟩, rfl⟩
 refine aS rfl<|Te<|Cr<|mV rfl ?_
 obtain ⟨i, c, hm⟩ := bS hm
 refine tD (uW _ call77 rfl (fun w ho => cCmpIsNaN _ [] f i c) (fun _ _ _ h => h.2.symm)) ?_
 rintro _ _ ⟨⟨_, rfl, _⟩, rfl⟩
 refine aS rfl<|Te<|Cs<|Cr<|mV rfl<|Te ?_
 refine cB hm rfl (fun hm => ?_) fun hm => ?_
 refine Cs<|Cr<|mV rfl<|Te ?_
 refine cB hm rfl (fun hm => ?_) fun hm => ?_
 refine Cr<|aS rfl<|Te<|Ct<|Xr<|Xr ?_
 obtain rfl := o1 hm
 exact rO ⟨rfl, rfl⟩ lr
 refine Ck<|Xn<|Cr<|aS rfl<|Te<|Ct<|Xr ?_
 obtain rfl := o1 hm
 exact rO ⟨rfl, rfl⟩ lr
 refine Ck<|Xn<|Cs<|Cr<|mV rfl<|Te ?_
 refine cB hm rfl (fun hm => ?_) fun hm => ?_
 refine Cr<|aS rfl<|Te<|Ct<|Xr ?_
 obtain rfl := o1 hm
 exact rO ⟨rfl, rfl⟩ lr
 refine Ck<|Xn<|Cs<|Cr<|mV rfl<|mV rfl<|tS (q3 rfl rfl)<|Te ?_
 refine cI hm rfl (fun hm => ?_) fun hm => ?_
 refine Cr<|aS rfl<|Te<|Ct<|Xr ?_
 obtain rfl := o1 hm
 exact rO ⟨rfl, rfl⟩ lr
 refine Ck<|Xn<|Cs<|Cr<|mV rfl<|mV rfl<|tS (q5 rfl rfl)<|Te ?_
 refine cI hm rfl (fun hm => ?_) fun hm => ?_
 refine Cr<|aS rfl<|Te<|Ct<|Xr ?_
 obtain rfl := o1 hm
 exact rO ⟨rfl, rfl⟩ lr
 refine Ck<|Xn<|Cr<|aS rfl<|Te<|Ct ?_
 obtain rfl := o1 hm
 exact rO ⟨rfl, rfl⟩ lr

set_option maxRecDepth 20000 in
theorem cCmpOr (b : Base) (R : Hp) (i s t) (w : FZ rI b.w s t i) (j) (hm : mCmpOr i = some j):
    CallsG Tryd.prog 43 [sv s i t] b (R) (fun v b' hp' => iv j = v ∧ R = hp') := by
 refine fE 18 Tryd.func43 rfl Tryd.ntmps43 rfl ?_
 unfold mCmpOr at hm
 refine Cr<|aS rfl<|Te<|Cr<|aS rfl<|Te<|Cs<|Cr<|mV rfl<|tS (sE rfl sl49) ?_
 refine mV rfl<|Te<|Cb ?_
 have x : i.length ≤ 9223372036854775807 := (FZ.bd w)
 obtain ⟨B, k, d⟩ := bS hm
 refine lF (fun l => fun _ => fun f e' hp' => [(3, iv 0), (6, sv s i t), (7, iv ((i.length : Int))), (8, iv ((l : Int)))] = e' ∧ R = hp' ∧ b.Le f) k ⟨rfl, rfl, lr⟩ ?_ ?_
 rintro l _ f _ _ y r ⟨rfl, rfl, a⟩ c e
 unfold mCmpOr_L38 at c
 have hm := c
 refine Cr<|tS (lT rfl rfl (by omega))<|Te<|Cs<|c_cond_t rfl<|Ck<|Xn<|Cs<|Cb<|Cr ?_
 obtain ⟨C, u, z, m, A, n, g, o, h, hm⟩ := bF (sz := 1) hm (w.le a)
 obtain rfl := n
 refine tS (sI u rfl rfl m h o sl49)<|tS (sO rfl one3 (g 0 _ rfl))<|aS rfl<|Te<|Cr<|mV rfl<|mV rfl<|tS (q2 rfl rfl)<|Te ?_
 refine cI hm rfl (fun hm => ?_) fun hm => ?_
 refine Cr<|mV rfl<|aS rfl<|Te<|Ct<|Xb<|Xr<|Xr<|Xb<|Xr ?_
 have p := e _ (Option.some.inj hm).symm
 rw [p] at d
 have hm := elimR d
 obtain rfl := o1 hm
 exact rO ⟨rfl, rfl⟩ a
 refine Ck<|Xm<|Xn<|Cg<|tS (sa rfl rfl (by omega))<|mV rfl<|Tn ?_
 exact jM hm ⟨rfl, rfl, (a)⟩
 rintro _ f _ _ ⟨rfl, rfl, a⟩ q
 rw [q] at d
 have hm := elimL d
 refine Cr<|tS (lF rfl rfl (by omega))<|Te<|Cs<|c_cond_f rfl<|Ce<|Xe<|Xe<|Xo<|Xn ?_
 refine Cr<|mV rfl<|aS rfl<|Te<|Ct ?_
 obtain rfl := o1 hm
 exact rO ⟨rfl, rfl⟩ a

set_option maxRecDepth 20000 in
theorem cGuideComparePoints (b : Base) (R : Hp) (g : GuidePoint) (i : GuidePoint) (p) (hm : mGuideComparePoints g i = some p):
    CallsG Tryd.prog 76 [.agg #[iv g.Dep, iv g.Arr, iv g.Rides], .agg #[iv i.Dep, iv i.Arr, iv i.Rides]] b (R) (fun v b' hp' => iv p = v ∧ R = hp') := by
 refine fE 22 Tryd.func76 rfl Tryd.ntmps76 rfl ?_
 unfold mGuideComparePoints at hm
 refine Cr<|tD (uB _ rfl rfl) ?_
 rintro _ _ ⟨y, rfl, rfl⟩
 refine tD (uB _ rfl rfl) ?_
 rintro _ _ ⟨z, rfl, rfl⟩
 refine aS rfl<|Te ?_
 obtain ⟨x, q, r⟩ := bS hm
 refine Cj (fun s e' hp' => [(4, iv x)] = e' ∧ R = hp' ∧ b.Le s) ?_ ?_
 have hm := q
 obtain ⟨a, j, hm⟩ := bS hm
 obtain ⟨c, k, hm⟩ := bS hm
 obtain ⟨d, m, hm⟩ := bS hm
 obtain ⟨t, f, hm⟩ := bS hm
 refine Di mixed (.refl _)<|E0 0 rfl (sF rfl fld42_0)<|Es 1 rfl (sL 1 rfl one3 rfl rfl)<|E0 2 rfl (sF rfl fld42_0)<|Es 3 rfl (sL 0 rfl one3 rfl rfl)<|E0 5 rfl (sF rfl fld42_1)<|Es 6 rfl (sL 1 rfl one3 rfl rfl)<|E0 7 rfl (sF rfl fld42_1)<|Es 8 rfl (sL 0 rfl one3 rfl rfl)<|E0 10 rfl (sF rfl fld42_2) ?_
 refine Es 11 rfl (sL 1 rfl one3 rfl rfl)<|E0 12 rfl (sF rfl fld42_2)<|Es 13 rfl (sL 0 rfl one3 rfl rfl)<|Eo<|Da [4] (by kernel_rfl) rfl ?_
 refine Rd2 lr rfl rfl (uW _ call44 rfl (fun w ho => cCmpCompare _ [] g.Dep i.Dep a j) (fun _ _ _ h => h.2.symm)) ?_ ?_
 rintro _ _ ⟨⟨_, rfl, _⟩, rfl⟩
 refine iR<|Da [9] (by kernel_rfl) rfl ?_
 refine Rd2 lr rfl rfl (uW _ call44 rfl (fun w ho => cCmpCompare _ [] g.Arr i.Arr c k) (fun _ _ _ h => h.2.symm)) ?_ ?_
 rintro _ _ ⟨⟨_, rfl, _⟩, rfl⟩
 refine iR<|Da [14] (by kernel_rfl) rfl ?_
 refine Rd2 lr rfl rfl (uW _ call44 rfl (fun w ho => cCmpCompare _ [] g.Rides i.Rides d m) (fun _ _ _ h => h.2.symm)) ?_ ?_
 rintro _ _ ⟨⟨_, rfl, _⟩, rfl⟩
 refine iR<|Da [15] (by kernel_rfl) rfl ?_
 refine Rd2 lr rfl rfl (u_bslice (el := 3) [(0, iv a), (1, iv c), (2, iv d)] [iv a, iv c, iv d] rfl (fun _ => by kernel_rfl)) ?_ ?_
 rintro _ _ ⟨e, rfl, rfl⟩
 refine iR<|d_seg 0 [_, _] R rfl rfl ?_
 have u : OS 3 (OT.fr rI) b.w (.slice (some ⟨e, 0, none⟩) 3 3) [a, c, d] [(e, Cl 3 [iv a, iv c, iv d])] := OS.lit [[iv a], [iv c], [iv d]] rfl ⟨rfl, ⟨rfl, ⟨rfl, trivial⟩⟩⟩ rfl (by decide)
 refine Da [16] (by kernel_rfl) rfl ?_
 refine Rd2 lr rfl rfl (uW _ call43 rfl (fun w ho => cCmpOr _ [] [a, c, d] (some ⟨e, 0, none⟩) 3 (OS.now (o := (OT.fr rI)) (l := [a, c, d]) (hs := [(e, Cl 3 [iv a, iv c, iv d])]) u ho (.cons _ (.cons _ (List.sublist_append_left _ _)))) t f) (fun _ _ _ h => h.2.symm)) ?_ ?_
 rintro _ _ ⟨⟨_, rfl, _⟩, rfl⟩
 refine iR<|Ei lr (.cons_cons _ (.cons_cons _ (ss [(e, Cl 3 [iv a, iv c, iv d])] (.refl _))))<|E0 17 rfl (sA rfl)<|Eo<|Dd (by kernel_rfl) ?_
 obtain rfl := o1 hm
 exact jJ ⟨rfl, rfl, lr⟩
 exact Rn
 exact Rn
 exact Rn
 exact Rn
 exact Rn
 rintro s _ _ ⟨rfl, rfl, n⟩
 have hm := r
 refine Ct ?_
 obtain rfl := o1 hm
 exact rO ⟨rfl, rfl⟩ n

set_option maxRecDepth 20000 in
theorem cSlicesInsertionSortCmpFunc (b : Base) (R : Hp) (x6 x7 l8 A3 c4 a5) (h5 : OS 42 (OT.fr rGuidePoint) b.w (sv A3 l8 c4) l8 a5) (A) (hm : mSlicesInsertionSortCmpFunc x6 x7 l8 = some A):
    CallsG Tryd.prog 107 [sv A3 l8 c4, iv x6, iv x7, .func (.func 76) #[] #[]] b ((a5 ++ R)) (fun v b' hp' => ∃ aa, .tuple #[] = v ∧ (aa ++ R) = hp' ∧ OS 42 (OT.fr rGuidePoint) b'.w (sv A3 A c4) A aa ∧ A.length = l8.length) := by
 refine fE 53 Tryd.func107 rfl Tryd.ntmps107 rfl ?_
 unfold mSlicesInsertionSortCmpFunc at hm
 refine Cr<|mV rfl ?_
 obtain ⟨_, W, hm⟩ := bS hm
 have W := (kS W).2
 refine tS (sa rfl rfl W)<|aS rfl<|Te<|Cb<|lL (unc2 fun s t => fun x e' hp' => ∃ m, [(0, sv A3 t c4), (1, iv x6), (2, iv x7), (3, .func (.func 76) #[] #[]), (8, iv s)] = e' ∧ (m ++ R) = hp' ∧ b.Le x ∧ OS 42 (OT.fr rGuidePoint) x.w (sv A3 t c4) t m ∧ t.length = l8.length) hm ⟨a5, rfl, rfl, lr, h5, rfl⟩ ?_
 rintro ⟨s, t⟩ x _ _ bH ⟨m, rfl, rfl, H, ao, I⟩ o X
 unfold mSlicesInsertionSortCmpFunc_L5371 at o
 have hm := (unc2E o)
 refine Cs<|Cr<|mV rfl<|mV rfl<|tS (q3 rfl rfl)<|Te ?_
 refine cI hm rfl (fun hm => ?_) fun hm => ?_
 refine Ck<|Xn ?_
 obtain ⟨B, aN, aO⟩ := bS hm
 refine Cj (fun Y e' hp' => ∃ q, [(0, sv A3 B c4), (1, iv x6), (2, iv x7), (3, .func (.func 76) #[] #[]), (8, iv s)] = e' ∧ (q ++ R) = hp' ∧ x.Le Y ∧ OS 42 (OT.fr rGuidePoint) Y.w (sv A3 B c4) B q ∧ B.length = l8.length) ?_ ?_
 have hm := aN
 refine Cb<|Cr<|mV rfl<|aS rfl<|Te<|Cb<|lL (unc2 fun f e => fun r e' hp' => ∃ l, [(0, sv A3 e c4), (1, iv x6), (2, iv x7), (3, .func (.func 76) #[] #[]), (8, iv s), (9, iv f)] = e' ∧ (l ++ R) = hp' ∧ x.Le r ∧ OS 42 (OT.fr rGuidePoint) r.w (sv A3 e c4) e l ∧ e.length = l8.length) hm ⟨m, rfl, rfl, lr, ao, I⟩ ?_
 rintro ⟨f, e⟩ r _ _ bI ⟨l, rfl, rfl, y, g, z⟩ p Z
 unfold mSlicesInsertionSortCmpFunc_L9840 at p
 have hm := (unc2E p)
 refine Cs ?_
 obtain ⟨aP, aq, ar⟩ := bS hm
 refine Cj (fun ab e' hp' => [(0, sv A3 e c4), (1, iv x6), (2, iv x7), (3, .func (.func 76) #[] #[]), (8, iv s), (9, iv f), (34, bv aP)] = e' ∧ (l ++ R) = hp' ∧ r.Le ab) ?_ ?_
 have hm := aq
 by_cases n : x6 < f
 rw [if_pos n] at hm
 obtain ⟨i, aQ, hm⟩ := bS hm
 obtain ⟨_, C, hm⟩ := bS hm
 obtain ⟨k, aR, hm⟩ := bS hm
 obtain ⟨aT, ad, hm⟩ := bS hm
 refine Di mixed (.refl _)<|E0 0 rfl (sM rfl)<|E0 1 rfl (sM rfl)<|E0 2 rfl (st_gtr_t rfl rfl n)<|E0 3 rfl (sM rfl)<|Yz 4 21 rfl (sM rfl)<|Yz 5 21 rfl (sM rfl)<|Yz 6 21 rfl (sM rfl) ?_
 obtain ⟨aU, au, av⟩ := iS aQ
 obtain ⟨bf, bg, bJ, bK, bh, aw, ae, J, af, bi, a7⟩ := OS.get (sz := 3) rfl (by decide) g av
 obtain ⟨⟨_, _, rfl, rfl, ⟨_, _, rfl, rfl, rfl⟩⟩, rfl⟩ := aw
 refine Yz 7 21 rfl (sI aU rfl rfl au af J sl38)<|Ey 8 21 rfl (st_loadN_rd (vs := [iv i.Dep, iv i.Arr, iv i.Rides]) 3 rfl agg42 J rfl (fun w ho j u hu => ae w _ ho (List.sublist_append_left _ _) j u hu))<|Yz 9 21 rfl (sM rfl)<|Yz 10 21 rfl (sM rfl) ?_
 have C := (kS C).2
 refine Yz 11 21 rfl (sb rfl rfl C) ?_
 obtain ⟨aV, ax, ay⟩ := iS aR
 obtain ⟨bj, bk, bL, bM, bl, az, ag, K, ah, bm, a8⟩ := OS.get (sz := 3) rfl (by decide) g ay
 obtain ⟨⟨_, _, rfl, rfl, ⟨_, _, rfl, rfl, rfl⟩⟩, rfl⟩ := az
 refine Yz 12 21 rfl (sI aV rfl rfl ax ah K sl38)<|Ey 13 21 rfl (st_loadN_rd (vs := [iv k.Dep, iv k.Arr, iv k.Rides]) 3 rfl agg42 K rfl (fun w ho j u hu => ag w _ ho (List.sublist_append_left _ _) j u hu))<|Eo<|Da [14] (by kernel_rfl) rfl ?_
 refine R_doY lr rfl rfl 21 rfl rfl rfl (u_callvW0 #[] #[] [.agg #[iv i.Dep, iv i.Arr, iv i.Rides], .agg #[iv k.Dep, iv k.Arr, iv k.Rides]] rfl call76 rfl (fun w ho => cGuideComparePoints _ [] i k aT ad) (fun _ _ _ h => h.2.symm)) ?_ ?_
 rintro _ _ ⟨⟨_, rfl, _⟩, rfl⟩
 refine iR<|Ei lr (.refl _)<|Yz 15 21 rfl (q3 rfl rfl)<|E0 16 rfl (pT rfl rfl)<|Eo<|Dd (by kernel_rfl) ?_
 obtain rfl := o1 hm
 exact jJ ⟨rfl, rfl, lr⟩
 exact Rn
 rw [if_neg n] at hm
 refine Di mixed (.refl _)<|E0 0 rfl (sM rfl)<|E0 1 rfl (sM rfl)<|E0 2 rfl (st_gtr_f rfl rfl n)<|E0 3 rfl (sM rfl)<|eN 4 rfl<|eN 5 rfl<|eN 6 rfl<|eN 7 rfl<|eN 8 rfl ?_
 refine eN 9 rfl<|eN 10 rfl<|eN 11 rfl<|eN 12 rfl<|eN 13 rfl<|eN 14 rfl<|eN 15 rfl<|E0 16 rfl (pF rfl rfl)<|Eo<|Dd (by kernel_rfl) ?_
 obtain rfl := o1 hm
 exact jJ ⟨rfl, rfl, lr⟩
 rintro ab _ _ ⟨rfl, rfl, c⟩
 have hm := ar
 refine cB hm rfl (fun hm => ?_) fun hm => ?_
 refine Ck<|Xn<|Cs<|Cb ?_
 obtain ⟨_, D, hm⟩ := bS hm
 obtain ⟨_, E, hm⟩ := bS hm
 obtain ⟨a, aW, hm⟩ := bS hm
 obtain ⟨d, aX, hm⟩ := bS hm
 obtain ⟨bN, aY, hm⟩ := bS hm
 obtain ⟨bO, aZ, hm⟩ := bS hm
 refine Di mixed (.refl _)<|E0 0 rfl (sM rfl)<|E0 1 rfl (sM rfl)<|E0 2 rfl (sM rfl)<|E0 3 rfl (sM rfl) ?_
 have D := (kS D).2
 refine E0 4 rfl (sb rfl rfl D)<|E0 5 rfl (sM rfl)<|E0 6 rfl (sM rfl) ?_
 have E := (kS E).2
 refine E0 7 rfl (sb rfl rfl E) ?_
 obtain ⟨a0, aA, aB⟩ := iS aW
 obtain ⟨bn, bo, bP, bQ, bp, aC, ai, L, aj, bq, a9⟩ := OS.get (sz := 3) rfl (by decide) (g.le c) aB
 obtain ⟨⟨_, _, rfl, rfl, ⟨_, _, rfl, rfl, rfl⟩⟩, rfl⟩ := aC
 refine E0 8 rfl (sI a0 rfl rfl aA aj L sl38)<|Es 9 rfl (st_loadN_rd (vs := [iv a.Dep, iv a.Arr, iv a.Rides]) 3 rfl agg42 L rfl (fun w ho j u hu => ai w _ ho (List.sublist_append_left _ _) j u hu))<|E0 10 rfl (sM rfl)<|E0 11 rfl (sM rfl) ?_
 obtain ⟨a1, aD, aE⟩ := iS aX
 obtain ⟨br, bs, bR, bT, bt, aF, ak, O, al, bu, ba⟩ := OS.get (sz := 3) rfl (by decide) (g.le c) aE
 obtain ⟨⟨_, _, rfl, rfl, ⟨_, _, rfl, rfl, rfl⟩⟩, rfl⟩ := aF
 refine E0 12 rfl (sI a1 rfl rfl aD al O sl38)<|Es 13 rfl (st_loadN_rd (vs := [iv d.Dep, iv d.Arr, iv d.Rides]) 3 rfl agg42 O rfl (fun w ho j u hu => ak w _ ho (List.sublist_append_left _ _) j u hu)) ?_
 obtain ⟨a2, S, T⟩ := iS aY
 obtain ⟨bw, bx, bU, bV, bz, aG, bb, aH, am, bA, bc⟩ := OS.get (sz := 3) rfl (by decide) (g.le c) T
 obtain ⟨⟨_, _, rfl, rfl, ⟨_, _, rfl, rfl, rfl⟩⟩, rfl⟩ := aG
 refine E0 14 rfl (sI a2 rfl rfl S am aH sl38)<|Eo<|Da [15] (by kernel_rfl) rfl ?_
 refine Rd2 lr rfl rfl (uP S (sz := 3) (a' := a) rfl [] R 0 3 [iv a.Dep, iv a.Arr, iv a.Rides] rfl (g.le c) T rfl rfl rfl siz42 rfl (mc rfl (mc rfl (mc rfl mn))) (fun cs hsj hh => by obtain ⟨⟨_, _, rfl, rfl, ⟨_, _, rfl, rfl, rfl⟩⟩, rfl⟩ := hh; exact ⟨by first | decide | exact Nat.le_refl _, ⟨[iv a.Dep], _, rfl, rfl, ⟨[iv a.Arr], _, rfl, rfl, rfl⟩⟩, rfl⟩)) ?_ ?_
 rintro _ _ ⟨bB, rfl, ac⟩
 refine ⟨.inl (by kernel_rfl), ?_⟩
 refine d_resp 0 rfl (v' := .slice A3 (put e f a).length c4) (by simp only [put_length])<|d_resp 39 rfl (v' := .slice A3 (put e f a).length c4) (by simp only [put_length]) ?_
 obtain ⟨a3, U, V⟩ := iS aZ
 obtain ⟨bC, bD, bW, bX, bE, aI, bd, aJ, an, bG, be⟩ := OS.get (sz := 3) rfl (by decide) ac V
 obtain ⟨⟨_, _, rfl, rfl, ⟨_, _, rfl, rfl, rfl⟩⟩, rfl⟩ := aI
 refine El lr<|E0 16 rfl (sI a3 rfl rfl U an aJ sl38)<|Eo<|Da [17] (by kernel_rfl) rfl ?_
 refine Rd2 lr rfl rfl (uP U (sz := 3) (a' := d) rfl [] R 0 3 [iv d.Dep, iv d.Arr, iv d.Rides] rfl ac V rfl rfl rfl siz42 rfl (mc rfl (mc rfl (mc rfl mn))) (fun cs hsj hh => by obtain ⟨⟨_, _, rfl, rfl, ⟨_, _, rfl, rfl, rfl⟩⟩, rfl⟩ := hh; exact ⟨by first | decide | exact Nat.le_refl _, ⟨[iv d.Dep], _, rfl, rfl, ⟨[iv d.Arr], _, rfl, rfl, rfl⟩⟩, rfl⟩)) ?_ ?_
 rintro _ _ ⟨aK, rfl, a4⟩
 refine ⟨.inl (by kernel_rfl), ?_⟩
 refine d_resp 0 rfl (v' := .slice A3 (put (put e f a) (f - 1) d).length c4) (by simp only [put_length])<|Dd (by kernel_rfl)<|Xm<|Xn<|Cg<|mV rfl ?_
 obtain ⟨_, F, hm⟩ := bS hm
 have F := (kS F).2
 refine tS (sb rfl rfl F)<|aS rfl<|Tn ?_
 exact jM hm ⟨aK, rfl, rfl, ((y.trans c)), a4, ((put_length _ _ _).trans ((put_length _ _ _).trans z))⟩
 exact Rn
 exact Rn
 refine Ce<|Xe<|Xe<|Xo ?_
 have hm := congrArg some (Z _ (Option.some.inj hm).symm)
 refine Xm ?_
 obtain rfl := o1 hm
 exact jJ ⟨l, rfl, rfl, (y.trans c), (g.le c), z⟩
 rintro Y _ _ ⟨q, rfl, rfl, aL, a6, aM⟩
 have hm := aO
 refine Cg<|mV rfl ?_
 obtain ⟨_, G, hm⟩ := bS hm
 have G := (kS G).2
 refine tS (sa rfl rfl G)<|aS rfl<|Tn ?_
 exact jM hm ⟨q, rfl, rfl, ((H.trans aL)), a6, aM⟩
 refine Ce<|Xe<|Xe<|Xo ?_
 have hm := congrArg some (X _ (Option.some.inj hm).symm)
 obtain rfl := o1 hm
 exact eZ ⟨m, rfl, rfl, ao, I⟩ H

set_option maxRecDepth 20000 in
theorem cSlicesPdqsortCmpFunc (b : Base) (R : Hp) (p q r i m n c) (x : OS 42 (OT.fr rGuidePoint) b.w (sv m i n) i c) (f) (hm : mSlicesPdqsortCmpFunc p q r i = some f):
    CallsG Tryd.prog 94 [sv m i n, iv p, iv q, iv r, .func (.func 76) #[] #[]] b ((c ++ R)) (fun v b' hp' => ∃ g, .tuple #[] = v ∧ (g ++ R) = hp' ∧ OS 42 (OT.fr rGuidePoint) b'.w (sv m f n) f g ∧ f.length = i.length) := by
 refine fE 148 Tryd.func94 rfl Tryd.ntmps94 rfl ?_
 unfold mSlicesPdqsortCmpFunc at hm
 refine Cr<|aS rfl<|Te<|Cr<|aS rfl<|Te<|Cb<|lL (fun _ => fun o e' hp' => [(0, sv m i n), (1, iv p), (2, iv q), (3, iv r), (4, .func (.func 76) #[] #[]), (10, bv true), (11, bv true)] = e' ∧ (c ++ R) = hp' ∧ b.Le o) hm ⟨rfl, rfl, lr⟩ ?_
 rintro _ o _ _ w ⟨rfl, rfl, d⟩ a e
 unfold mSlicesPdqsortCmpFunc_L36 at a
 have hm := a
 refine Cb<|Cr<|mV rfl<|mV rfl ?_
 obtain ⟨_, j, hm⟩ := bS hm
 have j := (kS j).2
 refine tS (sb rfl rfl j)<|aS rfl<|Te<|Cs<|Cr<|mV rfl<|tS (q4 rfl rfl)<|Te ?_
 refine cI hm rfl (fun hm => ?_) fun hm => ?_
 refine Cr<|mV rfl<|mV rfl<|mV rfl<|mV rfl ?_
 obtain ⟨s, k, hm⟩ := bS hm
 refine t_out1 [] [] c R rfl<|Tg _ rfl call107 rfl (cSlicesInsertionSortCmpFunc _ _ p q i m n c (x.le d) s k) ?_
 rintro _ y _ l ⟨h, rfl, rfl, t, u⟩
 refine t_in1 [] [] h R rfl<|Te<|Ct<|Xr<|Xb<|Xr<|Xb ?_
 have hm := congrArg some (e _ (Option.some.inj hm).symm)
 obtain rfl := o1 hm
 exact rZ ⟨h, rfl, rfl, t, (u.trans rfl)⟩ (d.trans l)
 refine Ck<|Xn<|Cs<|Cs ?_
 cases hm

set_option maxRecDepth 20000 in
theorem cSlicesSortFunc (b : Base) (R : Hp) (d l m a) (q : OS 42 (OT.fr rGuidePoint) b.w (sv l d m) d a) (c) (hm : mSlicesSortFunc d = some c):
    CallsG Tryd.prog 75 [sv l d m, .func (.func 76) #[] #[]] b ((a ++ R)) (fun v b' hp' => ∃ e, .tuple #[] = v ∧ (e ++ R) = hp' ∧ OS 42 (OT.fr rGuidePoint) b'.w (sv l c m) c e ∧ c.length = d.length) := by
 refine fE 14 Tryd.func75 rfl Tryd.ntmps75 rfl ?_
 unfold mSlicesSortFunc at hm
 refine Cr<|mV rfl<|tS (sE rfl sl38)<|aS rfl<|Te<|Cg<|mV rfl<|mV rfl<|mV rfl<|tS (st_conv rfl int3_i64 int145_u64) ?_
 obtain ⟨k, g, hm⟩ := bS hm
 refine tD (uW _ call95 rfl (fun w ho => cBitsLen _ [] (IntKind.wrap .u64 (d.length : Int)) k g) (fun _ _ _ h => h.2.symm)) ?_
 rintro _ _ ⟨⟨_, rfl, _⟩, rfl⟩
 refine mV rfl ?_
 obtain ⟨n, i, hm⟩ := bS hm
 refine t_out1 [] [] a R rfl<|Tg _ rfl call94 rfl (cSlicesPdqsortCmpFunc _ _ 0 (d.length : Int) k d l m a q n i) ?_
 rintro _ r _ j ⟨f, rfl, rfl, o, p⟩
 refine t_in1 [] [] f R rfl<|Tn ?_
 obtain rfl := o1 hm
 exact eZ ⟨f, rfl, rfl, o, (p.trans rfl)⟩ j

end Go.Proofs.YtckgfeglhjiflaaDoor
