/- Contracts: the code computes its model (part 1). -/
import Derived.Test.YtckgfeglhjiflaaDoorVT
import Derived.Test.YtckgfeglhjiflaaDoorSh2
import Derived.Test.YtckgfeglhjiflaaDoorBW
import Derived.Test.YtckgfeglhjiflaaDoorXO
set_option linter.unusedVariables false
set_option linter.unusedSimpArgs false
namespace Go.Proofs.YtckgfeglhjiflaaDoor.Inv
open Go.RowKit Go.Fp

open Go.Fp renaming t_ne → Te, t_callG → Tg, c_sr → Cr, c_seq → Cs, c_block → Cb, c_ret → Ct, c_skip → Ck, c_exit → Ce, c_join → Cj, x_then_normal → Xn, x_then_ret → Xr, x_then_exit → Xe, x_block_out → Xo, E_st → Es, E_s0 → E0, E_out → Eo, D_done → Dd, D_drawI → Di, st_loadD → sD, st_len → sE, st_move → sM, st_assign → sA, st_index_old → sI, st_load_old → sO, st_not → sn2, st_build → sB, u_box → uB, u_alloc → uA, u_storeN → uN, u_callW0 → uW, fn_enterG → fE, bindS → bS, some1 → o1, idx_some → iS, mem_c → mc, mem_n → mn, st_neq → q2, st_geq → q6
set_option maxRecDepth 20000 in
theorem cGuideNewDesk (b : Base) (R : Hp) (hG : GOn GT b) (i : ApiDay) (j n o p q) (t : FZ rApiTrain b.w n o i.Trains) (u : FZ (RT.list rI) b.w p q i.Turns) (m) (hm : mGuideNewDesk i j = some m):
    CallsG Tryd.prog 21 [.agg #[sv n i.Trains o, sv p i.Turns q], iv j] b (R) (fun v b' hp' => .tuple #[.pointer none, iv m] = v ∧ R = hp') := by
 refine fE 19 Tryd.func21 rfl Tryd.ntmps21 rfl ?_
 unfold mGuideNewDesk at hm
 refine Cr<|tD (uB _ rfl rfl) ?_
 rintro _ _ ⟨x, rfl, rfl⟩
 refine aS rfl<|aS rfl<|Te<|Cs<|Cr<|tS (sD (vs := [_, _]) 0 2 rfl agg25 rfl rfl rfl)<|mV rfl ?_
 obtain ⟨r, k, hm⟩ := bS hm
 refine tD (uW _ call49 rfl (fun w ho => cGuideCheckLeast _ [] ((hG.le lr).old ho) i j n o p q (t.old ho) (u.old ho) r k) (fun _ _ _ h => h.2.symm)) ?_
 rintro _ _ ⟨⟨_, rfl, _⟩, rfl⟩
 refine aS rfl<|Te<|Cr<|mV rfl<|tS (q2 rfl rfl)<|Te ?_
 refine cI hm rfl (fun hm => ?_) fun hm => ?_
 refine Cr<|mV rfl<|aS rfl<|aS rfl<|Te<|Ct<|Xr ?_
 obtain rfl := o1 hm
 exact rT ⟨rfl, rfl⟩ lr
 refine Ck<|Xn<|Cr<|tS (sD (vs := [_, _]) 0 2 rfl agg25 rfl rfl rfl) ?_
 obtain ⟨⟨a, c⟩, l, hm⟩ := bS hm
 have hm := (unc2E hm)
 refine Tg _ rfl call55 rfl (cGuideOwn _ _ i n o p q t u a c l) ?_
 rintro _ y _ s ⟨d, e, f, g, rfl, rfl, z, A⟩
 refine mV rfl<|tS (sB (v := .agg #[sv d a e, sv f c g, iv j]) [(0, .agg #[sv d a e, sv f c g]), (1, iv j)] rfl (fun _ => by kernel_rfl))<|tS (sB (v := .agg #[sv d a e, sv f c g, iv j, iv 0, sn, sn]) [(0, .agg #[sv d a e, sv f c g, iv j])] rfl (fun _ => by kernel_rfl))<|tD (uB _ rfl rfl) ?_
 rintro _ _ ⟨B, rfl, rfl⟩
 refine aS rfl<|aS rfl<|Te<|Ct ?_
 cases hm

set_option maxRecDepth 20000 in
theorem cFishkeep2GuidePromises (b : Base) (R : Hp) (hG : GOn GT b) (A : ApiDay) (x8 m n e A2 c3 A5 c6 A9 F G H I J) (h4 : FZ rApiTrain b.w A2 c3 A.Trains) (h7 : FZ (RT.list rI) b.w A5 c6 A.Turns) (aG : FZ rApiDay b.w A9 F m) (aH : FZ rGuideJourney b.w G H n) (f : FZ rI b.w I J e) (B) (hm : mFishkeep2GuidePromises A x8 m n e = some B):
    CallsG Tryd.prog 5 [.agg #[sv A2 A.Trains c3, sv A5 A.Turns c6], iv x8, sv A9 m F, sv G n H, sv I e J] b (R) (fun v b' hp' => bv B = v ∧ R = hp') := by
 refine fE 176 Tryd.func5 rfl Tryd.ntmps5 rfl ?_
 unfold mFishkeep2GuidePromises at hm
 refine Cr<|tD (uB _ rfl rfl) ?_
 rintro _ _ ⟨aB, rfl, rfl⟩
 refine aS rfl<|Te<|Cs<|Cr ?_
 obtain ⟨ae, o, hm⟩ := bS hm
 refine tD (uW _ call7 rfl (fun w ho => cFishkeep2AwakeGuide _ [] ((hG.le lr).old ho) ae o) (fun _ _ _ h => h.2.symm)) ?_
 rintro _ _ ⟨⟨_, rfl, _⟩, rfl⟩
 refine tS (sn2 rfl)<|Te ?_
 refine cM hm rfl (fun hm => ?_) fun hm => ?_
 refine Cr<|aS rfl<|Te<|Ct<|Xr ?_
 obtain rfl := o1 hm
 exact rO ⟨rfl, rfl⟩ lr
 refine Ck<|Xn<|Cr<|tS (sD (vs := [_, _]) 0 2 rfl agg25 rfl rfl rfl)<|mV rfl ?_
 obtain ⟨af, p, hm⟩ := bS hm
 refine tD (uW _ call21 rfl (fun w ho => cGuideNewDesk _ [] ((hG.le lr).old ho) A x8 A2 c3 A5 c6 (h4.old ho) (h7.old ho) af p) (fun _ _ _ h => h.2.symm)) ?_
 rintro _ _ ⟨⟨_, rfl, _⟩, rfl⟩
 refine mV rfl<|tS (st_extract rfl rfl)<|tS (st_extract rfl rfl)<|aS rfl<|aS rfl<|Te<|Cs<|Cr ?_
 obtain ⟨ag, q, hm⟩ := bS hm
 refine tD (uW _ call8 rfl (fun w ho => cFishkeep2Guides _ [] ((hG.le lr).old ho) ag q) (fun _ _ _ h => h.2.symm)) ?_
 rintro _ _ ⟨⟨_, rfl, _⟩, rfl⟩
 refine tS (sn2 rfl)<|Te ?_
 refine cM hm rfl (fun hm => ?_) fun hm => ?_
 refine Cr<|aS rfl<|Te<|Ct<|Xr ?_
 obtain rfl := o1 hm
 exact rO ⟨rfl, rfl⟩ lr
 refine Ck<|Xn<|Cs<|Cr<|mV rfl<|tS (q2 rfl rfl)<|Te ?_
 refine cI hm rfl (fun hm => ?_) fun hm => ?_
 refine Cr<|mV rfl<|tS (st_eqpn rfl rfl rfl ptr55)<|aS rfl<|Te<|Ct<|Xr ?_
 obtain rfl := o1 hm
 exact rO ⟨rfl, rfl⟩ lr
 refine Ck<|Xn<|Cr<|aS rfl<|Te<|Cr<|aS rfl<|Te<|Cr<|tS (sD (vs := [_, _]) 0 2 rfl agg25 rfl rfl rfl) ?_
 refine tD (uA [sn, sn] zero25 rfl) ?_
 rintro _ _ ⟨C, rfl, rfl⟩
 refine tD (uN (vs := [_, _]) 0 2 rfl rfl rfl siz25 rfl (mc rfl (mc rfl mn)) rfl (by simp)) ?_
 rintro _ _ rfl
 refine Te ?_
 obtain ⟨ah, K, g⟩ := bS hm
 refine Cj (fun D e' hp' => [] = e' ∧ R = hp' ∧ b.Le D ∧ ah = .inl ()) ?_ ?_
 have hm := K
 refine Cb<|lL (fun _ => fun E e' hp' => [(1, iv x8), (2, sv A9 m F), (3, sv G n H), (4, sv I e J), (11, .pointer none), (13, sn), (14, iv 0), (15, pb C)] = e' ∧ (C, Cl 25 [sv A2 A.Trains c3, sv A5 A.Turns c6]) :: R = hp' ∧ b.Le E) hm ⟨rfl, rfl, lr⟩ ?_
 rintro _ E _ _ aw ⟨rfl, rfl, a⟩ c d
 unfold mFishkeep2GuidePromises_L519 at c
 have hm := c
 refine Cs<|Cr<|mV rfl<|tS (sE rfl sl49)<|tS (q6 rfl rfl)<|Te ?_
 refine cI hm rfl (fun hm => ?_) fun hm => ?_
 refine Ck<|Xn<|Cb<|Cs ?_
 obtain ⟨aC, ai, hm⟩ := bS hm
 obtain ⟨aD, aj, hm⟩ := bS hm
 obtain ⟨aE, ak, hm⟩ := bS hm
 refine Di mixed (.refl _)<|E0 0 rfl (sM rfl) ?_
 obtain ⟨al, L, O⟩ := iS ai
 obtain ⟨ax, S, r, T, s⟩ := FZ.get (sz := 1) rfl (by decide) (f.le a) O
 obtain rfl := S
 refine E0 1 rfl (sI al rfl rfl L s T sl49)<|Es 2 rfl (sO rfl one3 (r 0 _ rfl))<|E0 3 rfl (sM rfl) ?_
 obtain ⟨am, U, V⟩ := iS aj
 obtain ⟨ay, W, t, X, u⟩ := FZ.get (sz := 1) rfl (by decide) (f.le a) V
 obtain rfl := W
 refine E0 4 rfl (sI am rfl rfl U u X sl49)<|Es 5 rfl (sO rfl one3 (t 0 _ rfl))<|E0 6 rfl (sM rfl) ?_
 obtain ⟨an, Y, Z⟩ := iS ak
 obtain ⟨az, aa, x, ab, y⟩ := FZ.get (sz := 1) rfl (by decide) (f.le a) Z
 obtain rfl := aa
 refine E0 7 rfl (sI an rfl rfl Y y ab sl49)<|Es 8 rfl (sO rfl one3 (x 0 _ rfl))<|E0 9 rfl (sA rfl)<|E0 10 rfl (sA rfl)<|E0 11 rfl (sA rfl)<|Eo<|Dd (by kernel_rfl)<|Xn<|Cr<|mV rfl ?_
 obtain ⟨aF, ao, hm⟩ := bS hm
 obtain ⟨aq, ar, ac, aA, i, j, k⟩ := cutS_some ao
 have au := FZ.sub (sz := 1) rfl (f.le a) i j
 have av := (f.le a).1.1
 rw [← k] at au
 refine tS (k ▸ st_part (l := e) aq ar rfl (.inr ⟨_, _, _, rfl, rfl, ac⟩) (.inl ⟨rfl, by omega⟩) i j av sl49)<|aS rfl<|Te<|Cr<|mV rfl ?_
 cases hm
 refine Ce<|Xe<|Xe<|Xo ?_
 have hm := congrArg some (d _ (Option.some.inj hm).symm)
 have hq := (Option.some.inj hm).symm
 exact jJ ⟨rfl, rfl, a, hq⟩
 rintro D _ _ ⟨rfl, rfl, z, ad⟩
 rw [ad] at g
 have hm := elimL g
 refine Cr<|aS rfl<|Te<|Ct ?_
 obtain rfl := o1 hm
 exact rO ⟨rfl, rfl⟩ z

end Go.Proofs.YtckgfeglhjiflaaDoor.Inv
