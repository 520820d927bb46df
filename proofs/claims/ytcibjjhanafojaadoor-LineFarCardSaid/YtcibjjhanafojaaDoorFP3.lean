/- Contracts: the code computes its model (part 3). -/
import Derived.Test.YtcibjjhanafojaaDoorFP2
set_option linter.unusedVariables false
set_option linter.unusedSimpArgs false
namespace Go.Proofs.YtcibjjhanafojaaDoor
open Go.RowKit Go.Fp

set_option maxRecDepth 20000 in
theorem cLineApart (b : Base) (R : Hp) (s1 : ApiNet) (A2 : Option Addr) (c3 : Nat) (A5 : Option Addr) (c6 : Nat) (A8 : Option Addr) (c9 : Nat) (A11 : Option Addr) (c12 : Nat) (A14 : Option Addr) (c15 : Nat) (h4 : FZ RT.str b.w A2 c3 s1.Stations) (h7 : FZ rApiSection b.w A5 c6 s1.Sections) (h10 : FZ rApiLink b.w A8 c9 s1.Links) (h13 : FZ rApiSignal b.w A11 c12 s1.Signals) (h16 : FZ rApiGate b.w A14 c15 s1.Gates) (x4624 : Int) (l4625 : (List (List Int))) (hm : mLineApart s1 = some (x4624, l4625)) :
    CallsG Tryd.prog 13 [.agg #[.slice A2 (s1.Stations).length c3, .slice A5 (s1.Sections).length c6, .slice A8 (s1.Links).length c9, .slice A11 (s1.Signals).length c12, .slice A14 (s1.Gates).length c15]] b (R) (fun v b' hp' => ∃ (A4621 : Option Addr), ∃ (c4622 : Nat), ∃ (hs4620 : Hp), .tuple #[.slice A4621 (l4625).length c4622, .int .i64 (x4624)] = v ∧ (hs4620 ++ R) = hp' ∧ OS 48 (OT.list 3 (OT.fr (RT.int .i64))) b'.w (.slice A4621 l4625.length c4622) l4625 hs4620) := by
  refine fn_enterG 89 Tryd.func13 rfl Tryd.ntmps13 rfl ?_
  unfold mLineApart at hm
  refine c_sr ?_
  refine t_do rfl (u_box _ rfl rfl) ?_
  rintro _ _ ⟨g4626, rfl, rfl⟩
  refine t_as rfl rfl ?_
  refine t_as rfl rfl ?_
  refine t_ne ?_
  refine c_seq ?_
  refine c_sr ?_
  refine t_st rfl (st_loadD (vs := [_, _, _, _, _]) 0 5 rfl agg28 rfl rfl rfl) ?_
  obtain ⟨x4627, hcl4628, hm⟩ := bindS hm
  refine t_do rfl (u_callW0 _ call15 rfl (fun w ho => cLineCheck _ [] s1 A2 c3 A5 c6 A8 c9 A11 c12 A14 c15 (h4.old ho) (h7.old ho) (h10.old ho) (h13.old ho) (h16.old ho) x4627 hcl4628) (fun _ _ _ h => h.2.symm)) ?_
  rintro _ _ ⟨⟨_, rfl, _⟩, rfl⟩
  refine t_as rfl rfl ?_
  refine t_ne ?_
  refine c_sr ?_
  refine t_mv rfl rfl ?_
  refine t_st rfl (st_neq rfl rfl) ?_
  refine t_ne ?_
  refine c_cond _ rfl (fun hc4629 => ?_) (fun hc4629 => ?_)
  ·
   rw [if_pos (of_decide_eq_true hc4629)] at hm
   refine c_sr ?_
   refine t_mv rfl rfl ?_
   refine t_as rfl rfl ?_
   refine t_as rfl rfl ?_
   refine t_ne ?_
   refine c_ret ?_
   refine x_then_ret ?_
   obtain ⟨rfl, rfl⟩ := some2 hm
   exact retM (rs := [.tmp 2, .tmp 3]) [.slice none 0 0, .int .i64 (x4627)] (Base.Le.refl _) (by decide) rfl ⟨rfl, ⟨rfl, trivial⟩⟩ rfl (.cons _ (.refl _)) ⟨none, 0, [], rfl, rfl, OS.nil⟩
  ·
   rw [if_neg (of_decide_eq_false hc4629)] at hm
   refine c_skip ?_
   refine x_then_normal ?_
   refine c_sr ?_
   refine t_st rfl (st_field rfl fld28_0) ?_
   refine t_st rfl (st_load 0 rfl one22 rfl rfl) ?_
   refine t_st rfl (st_len rfl sl22) ?_
   obtain ⟨m4630, h4631, hm⟩ := bindS hm
   have h4631 := mkLen_some h4631
   refine t_do rfl (u_mkOO (o := (OT.list 3 (OT.fr (RT.int .i64)))) [_] R [.slice none 0 0] ([] : List Int) m4630 rfl h4631.1 rfl rfl sl45 inf48 rfl rfl rfl (by decide) ⟨_, rfl, OS.nil⟩ h4631.2.1 h4631.2.2) ?_
   rintro _ _ ⟨hs4632, rfl, h4633⟩
   obtain ⟨A4634, c4635, rfl, _⟩ := h4633.form
   refine t_as rfl rfl ?_
   refine t_ne ?_
   refine c_seq ?_
   refine c_sr ?_
   refine t_mv rfl rfl ?_
   refine t_st rfl (st_len rfl sl45) ?_
   refine t_mv rfl rfl ?_
   refine t_ne ?_
   refine c_block ?_
   have hb4637 : (List.replicate m4630 (([] : List Int) : (List Int))).length ≤ 9223372036854775807 := (OS.len h4633)
   obtain ⟨l7698, hl7701, hk7702⟩ := bindS hm
   refine c_forS (fun k7700 => fun l7698 => fun b7693 e' hp' => ∃ (hs7696 : Hp), [(1, .pointer (some ⟨g4626, 0, none⟩)), (5, .slice A4634 (l7698).length c4635), (20, .int .i64 (((List.replicate m4630 (([] : List Int) : (List Int))).length : Int))), (21, .int .i64 ((k7700 : Int)))] = e' ∧ (g4626, Cl 28 [.slice A2 (s1.Stations).length c3, .slice A5 (s1.Sections).length c6, .slice A8 (s1.Links).length c9, .slice A11 (s1.Signals).length c12, .slice A14 (s1.Gates).length c15]) :: (hs7696 ++ R) = hp' ∧ b.Le b7693 ∧ OS 48 (OT.list 3 (OT.fr (RT.int .i64))) b7693.w (.slice A4634 l7698.length c4635) l7698 hs7696 ∧ l7698.length = m4630) hl7701 (e' := [(1, .pointer (some ⟨g4626, 0, none⟩)), (5, .slice A4634 (List.replicate m4630 (([] : List Int) : (List Int))).length c4635), (20, .int .i64 (((List.replicate m4630 (([] : List Int) : (List Int))).length : Int))), (21, .int .i64 0)]) ⟨rfl, rfl, rfl, rfl, trivial⟩ (.refl _) ⟨hs4632, rfl, rfl, (Base.Le.refl _), h4633, List.length_replicate⟩ ?_ ?_
   ·
    rintro k7700 l7698 b7693 _ _ oL4636 hknL4636 ⟨hs7696, rfl, rfl, hle7694, h7697, hln7699⟩ hstepL4636
    unfold mLineApart_L4636 at hstepL4636
    have hm := hstepL4636
    refine c_sr ?_
    refine t_st rfl (st_lss_t rfl rfl (by omega)) ?_
    refine t_ne ?_
    refine c_seq ?_
    refine c_cond_t rfl ?_
    refine c_skip ?_
    refine x_then_normal ?_
    refine c_seq ?_
    refine c_block ?_
    refine c_sr ?_
    refine t_mv rfl rfl ?_
    refine t_as rfl rfl ?_
    refine t_ne ?_
    refine c_sr ?_
    refine t_mv rfl rfl ?_
    refine t_mv rfl rfl ?_
    refine t_do rfl (u_bslice (el := 3) [(0, .int .i64 ((-1)))] [.int .i64 ((-1))] rfl (fun _ => by kernel_rfl)) ?_
    rintro _ _ ⟨g7703, rfl, rfl⟩
    refine t_st rfl (st_field rfl fld28_0) ?_
    refine t_st rfl (st_load 1 rfl one22 rfl rfl) ?_
    refine t_st rfl (st_len rfl sl22) ?_
    refine t_seg 0 [_] (hs7696 ++ R) rfl rfl ?_
    have h7705 : OS 3 (OT.fr (RT.int .i64)) b7693.w (.slice (some ⟨g7703, 0, none⟩) 1 1) [(-1)] [(g7703, Cl 3 [.int .i64 ((-1))])] := OS.lit [[.int .i64 ((-1))]] rfl ⟨rfl, trivial⟩ rfl (by decide)
    obtain ⟨l7706, hcl7707, hm⟩ := bindS hm
    refine t_do rfl (u_callWF [_] ([(g7703, Cl 3 [.int .i64 ((-1))])] ++ (hs7696 ++ R)) _ rfl call29 rfl (fun w ho => cSlicesRepeat _ [] [(-1)] (s1.Stations.length : Int) (some ⟨g7703, 0, none⟩) 1 (OS.now (o := (OT.fr (RT.int .i64))) (l := [(-1)]) (hs := [(g7703, Cl 3 [.int .i64 ((-1))])]) h7705 ho (.cons _ (List.sublist_append_left _ _))) l7706 hcl7707)) ?_
    rintro _ _ ⟨_, _, rfl, A7708, c7709, hs7710, rfl, hq7713, h7711⟩
    obtain rfl := List.append_cancel_right hq7713
    have h7712 := flat_fz (w' := b7693.w) (fun _ _ _ _ h => h) h7711
    obtain ⟨x7714, h7715, hm⟩ := bindS hm
    obtain ⟨j7716, hj7717, hx7718⟩ := idx_some h7715
    obtain ⟨cs7719, hs7724, P7725, P7726, hq7727, hr7720, hcs7721, hA7722, hlt7723, hb7728, hho7729⟩ := OS.get (sz := 1) rfl (by decide) h7697 hx7718
    obtain ⟨v7730, rfl, h7731⟩ := hr7720
    obtain ⟨A7732, c7733, rfl, _⟩ := h7731.form
    refine t_st rfl (st_index_old j7716 rfl rfl hj7717 hlt7723 hA7722 sl45) ?_
    refine t_front3 [_] hs7710 [(g7703, Cl 3 [.int .i64 ((-1))])] hs7696 R rfl ?_
    refine t_do rfl (u_putOO hj7717 (sz := 1) (a' := l7706) rfl [_] hs7710 ([(g7703, Cl 3 [.int .i64 ((-1))])] ++ R) 1 [.slice A7708 (l7706).length c7709] rfl h7697 hx7718 rfl rfl rfl siz48 rfl (by decide) ⟨_, rfl, h7712⟩) ?_
    rintro _ _ ⟨hs7734, rfl, h7735⟩
    refine t_resp 5 rfl (v' := .slice A4634 (put l7698 (k7700 : Int) l7706).length c4635) (by simp only [put_length]) ?_
    refine t_ne ?_
    obtain ⟨l8464, hj8466, hk8466⟩ := bindS hm
    refine c_join (fun b8459 e' hp' => ∃ (hs8462 : Hp), [(1, .pointer (some ⟨g4626, 0, none⟩)), (5, .slice A4634 (l8464).length c4635), (6, .int .i64 ((k7700 : Int))), (20, .int .i64 (((List.replicate m4630 (([] : List Int) : (List Int))).length : Int))), (21, .int .i64 ((k7700 : Int)))] = e' ∧ (g4626, Cl 28 [.slice A2 (s1.Stations).length c3, .slice A5 (s1.Sections).length c6, .slice A8 (s1.Links).length c9, .slice A11 (s1.Signals).length c12, .slice A14 (s1.Gates).length c15]) :: (hs8462 ++ R) = hp' ∧ b7693.Le b8459 ∧ OS 48 (OT.list 3 (OT.fr (RT.int .i64))) b8459.w (.slice A4634 l8464.length c4635) l8464 hs8462 ∧ l8464.length = m4630) ?_ ?_
    ·
     have hm := hj8466
     refine c_seq ?_
     obtain ⟨l8489, hcl8490, hm⟩ := bindS hm
     obtain ⟨l8501, hcl8502, hm⟩ := bindS hm
     refine D_drawI mixed (.cons_cons _ (sub_app hs7734 (sub_app [(g7703, Cl 3 [.int .i64 ((-1))])] (.refl _)))) ?_
     refine E_st 0 rfl (st_loadD (vs := [_, _, _, _, _]) 0 5 rfl agg28 rfl rfl rfl) ?_
     refine E_st 1 rfl (st_loadD (vs := [_, _, _, _, _]) 0 5 rfl agg28 rfl rfl rfl) ?_
     refine E_st 2 rfl (st_move rfl) ?_
     refine E_out ?_
     refine D_all [3] (by kernel_rfl) rfl ?_
     refine R_callGl (Base.Le.refl _) rfl rfl _ call31 rfl (cLinePlatforms _ _ s1 (k7700 : Int) A2 c3 A5 c6 A8 c9 A11 c12 A14 c15 (h4.le hle7694) (h7.le hle7694) (h10.le hle7694) (h13.le hle7694) (h16.le hle7694) l8489 hcl8490) ?_ ?_
     ·
      rintro _ b8491 _ hle8492 ⟨A8493, c8494, hs8495, rfl, rfl, h8496⟩
      refine ⟨.inr (sub_skip hs8495 (.cons_cons _ (sub_app hs7734 (sub_app [(g7703, Cl 3 [.int .i64 ((-1))])] (.refl _))))), ?_⟩
      refine d_in1 [] [_] hs8495 (hs7734 ++ ([(g7703, Cl 3 [.int .i64 ((-1))])] ++ R)) rfl ?_
      refine d_frz [_] hs8495 (hs7734 ++ ([(g7703, Cl 3 [.int .i64 ((-1))])] ++ R)) rfl ?_
      intro b8497 hle8498 hz8499
      have h8500 := OS.frz (l := l8489) h8496 hle8498.cells hz8499
      refine D_all [4] (by kernel_rfl) rfl ?_
      refine R_callGl (hle8492.trans hle8498) rfl rfl _ call30 rfl (cLineDistances _ _ s1 l8489 A2 c3 A5 c6 A8 c9 A11 c12 A14 c15 A8493 c8494 (h4.le (hle7694.trans (hle8492.trans hle8498))) (h7.le (hle7694.trans (hle8492.trans hle8498))) (h10.le (hle7694.trans (hle8492.trans hle8498))) (h13.le (hle7694.trans (hle8492.trans hle8498))) (h16.le (hle7694.trans (hle8492.trans hle8498))) h8500 l8501 hcl8502) ?_ ?_
      ·
       rintro _ b8503 _ hle8504 ⟨g8505, hs8506, rfl, rfl, h8507⟩
       refine ⟨.inr (sub_skip hs8506 (.cons_cons _ (sub_app hs7734 (sub_app [(g7703, Cl 3 [.int .i64 ((-1))])] (.refl _))))), ?_⟩
       refine d_in1 [] [_] hs8506 (hs7734 ++ ([(g7703, Cl 3 [.int .i64 ((-1))])] ++ R)) rfl ?_
       refine D_all [5] (by kernel_rfl) rfl ?_
       refine R_do (hle8492.trans (hle8498.trans hle8504)) rfl rfl (u_range [_] (hs7734 ++ ([(g7703, Cl 3 [.int .i64 ((-1))])] ++ R)) rfl h8507 mapt86 rfl) ?_ ?_
       ·
        rintro _ _ ⟨g8508, hs8509, rfl, rfl, h8510⟩
        refine ⟨.inr (.cons_cons _ (sub_skip hs8509 (sub_app hs7734 (sub_app [(g7703, Cl 3 [.int .i64 ((-1))])] (.refl _))))), ?_⟩
        refine D_done (by kernel_rfl) ?_
        refine x_then_normal ?_
        refine c_block ?_
        obtain ⟨t8958, hl8959, hk8960⟩ := bindS hm
        refine c_mapM (fun l8956 => fun b8951 e' hp' => ∃ (hs8954 : Hp), [(1, .pointer (some ⟨g4626, 0, none⟩)), (5, .slice A4634 (l8956).length c4635), (6, .int .i64 ((k7700 : Int))), (20, .int .i64 (((List.replicate m4630 (([] : List Int) : (List Int))).length : Int))), (21, .int .i64 ((k7700 : Int))), (37, .pointer (some ⟨g8508, 0, none⟩))] = e' ∧ (g4626, Cl 28 [.slice A2 (s1.Stations).length c3, .slice A5 (s1.Sections).length c6, .slice A8 (s1.Links).length c9, .slice A11 (s1.Signals).length c12, .slice A14 (s1.Gates).length c15]) :: (hs8954 ++ R) = hp' ∧ b8503.Le b8951 ∧ OS 48 (OT.list 3 (OT.fr (RT.int .i64))) b8951.w (.slice A4634 l8956.length c4635) l8956 hs8954 ∧ l8956.length = m4630) hl8959 h8510 (e' := [(1, .pointer (some ⟨g4626, 0, none⟩)), (5, .slice A4634 (put l7698 (k7700 : Int) l7706).length c4635), (6, .int .i64 ((k7700 : Int))), (20, .int .i64 (((List.replicate m4630 (([] : List Int) : (List Int))).length : Int))), (21, .int .i64 ((k7700 : Int))), (37, .pointer (some ⟨g8508, 0, none⟩))]) ⟨rfl, rfl, rfl, rfl, rfl, rfl, trivial⟩ [_] (hs7734 ++ ([(g7703, Cl 3 [.int .i64 ((-1))])] ++ R)) rfl (.cons_cons _ (sub_app hs7734 (sub_skip [(g7703, Cl 3 [.int .i64 ((-1))])] (.refl _)))) ⟨hs7734, rfl, rfl, (Base.Le.refl _), (h7735.le (hle8492.trans (hle8498.trans hle8504))), ((put_length _ _ _).trans hln7699)⟩ ?_
        rintro l8956 l8963 b8951 _ _ hs8961 ⟨hs8954, rfl, rfl, hle8952, h8955, hln8957⟩ hle8966 h8962 hd8964 hall8965
        refine c_mid [_] hs8961 (hs8954 ++ R) ?_ rfl
        refine c_sr ?_
        refine t_next [_] (hs8954 ++ R) rfl rfl rfl h8962 (fun hnil8967 => ?_) (fun x8968 l8969 v8970 v8971 hs8972 hperm8973 hx8974 h8975 => ?_)
        ·
         have hend8976 := hd8964 hnil8967
         refine t_st rfl (st_extract rfl rfl) ?_
         refine t_ne ?_
         refine c_seq ?_
         refine c_cond_f rfl ?_
         refine c_exit ?_
         refine x_then_exit ?_
         refine x_then_exit ?_
         refine x_block_out ?_
         rw [hend8976] at hk8960
         have hm := elimL hk8960
         obtain rfl := some1 hm
         refine x_front2 [_] hs8961 hs8954 R rfl ?_
         exact x_join (e' := [(1, .pointer (some ⟨g4626, 0, none⟩)), (5, .slice A4634 (l8956).length c4635), (6, .int .i64 ((k7700 : Int))), (20, .int .i64 (((List.replicate m4630 (([] : List Int) : (List Int))).length : Int))), (21, .int .i64 ((k7700 : Int)))]) ⟨rfl, rfl, rfl, rfl, rfl, trivial⟩ (.cons_cons _ (sub_app hs8954 (sub_skip hs8961 (.refl _)))) ⟨hs8954, rfl, rfl, (hle8492.trans (hle8498.trans (hle8504.trans hle8952))), h8955, hln8957⟩
        ·
         obtain ⟨o8977, hstep8978, hout8979⟩ := hall8965 _ _ hperm8973
         have hstep89780 := hstep8978
         unfold mLineApart_L8511 at hstep89780
         have hm := hstep89780
         refine t_st rfl (st_extract rfl rfl) ?_
         refine t_ne ?_
         refine c_seq ?_
         refine c_cond_t rfl ?_
         refine c_skip ?_
         refine x_then_normal ?_
         refine c_block ?_
         refine c_sr ?_
         obtain ⟨v8980, v8981, hv8982, hv8983, hr8984⟩ := MIx.entry Tryd.prog hx8974
         obtain ⟨_, rfl, ⟨_, _, rfl, rfl, rfl⟩⟩ := hv8982
         obtain rfl : v8981 = .int .i64 (x8968.2) := by have hv8983 : [v8981] = [.int .i64 (x8968.2)] := hv8983; injection hv8983
         refine t_st rfl (hr8984 (.cons _ (List.sublist_append_left _ _)) rfl) ?_
         refine t_st rfl (st_extract rfl rfl) ?_
         refine t_st rfl (st_extract rfl rfl) ?_
         refine t_do rfl (u_alloc [.int .i64 0, .int .i64 0] zero77 rfl) ?_
         rintro _ _ ⟨g8985, rfl, rfl⟩
         refine t_do rfl (u_storeN (vs := [_, _]) 0 2 rfl rfl rfl siz77 rfl (mem_c rfl (mem_c rfl mem_n)) rfl (by simp)) ?_
         rintro _ _ rfl
         refine t_as rfl rfl ?_
         refine t_ne ?_
         refine c_sr ?_
         refine t_st rfl (st_field rfl fld28_1) ?_
         refine t_st rfl (st_load 1 rfl one23 rfl rfl) ?_
         refine t_st rfl (st_field rfl fld77_0) ?_
         refine t_st rfl (st_load 0 rfl one3 rfl rfl) ?_
         obtain ⟨x8986, h8987, hm⟩ := bindS hm
         obtain ⟨j8988, hj8989, hx8990⟩ := idx_some h8987
         obtain ⟨cs8991, hr8992, hcs8993, hA8994, hlt8995⟩ := FZ.get (sz := 7) rfl (by decide) (h7.le (hle7694.trans (hle8492.trans (hle8498.trans (hle8504.trans hle8952))))) hx8990
         obtain ⟨_, _, rfl, rfl, ⟨_, _, rfl, rfl, ⟨_, _, rfl, rfl, ⟨_, _, rfl, rfl, ⟨_, _, rfl, rfl, ⟨_, _, rfl, rfl, rfl⟩⟩⟩⟩⟩⟩ := hr8992
         refine t_st rfl (st_index_old j8988 rfl rfl hj8989 hlt8995 hA8994 sl23) ?_
         refine t_st rfl (st_field_old rfl hA8994 fld58_5) ?_
         refine t_st rfl (st_load_old rfl one3 (hcs8993 5 _ rfl)) ?_
         obtain ⟨_, h8996, hm⟩ := bindS hm
         have h8996 := (chk_some h8996).2
         refine t_st rfl (st_sub rfl rfl h8996) ?_
         refine t_as rfl rfl ?_
         refine t_ne ?_
         obtain ⟨x9073, hj9074, hk9074⟩ := bindS hm
         refine c_join (fun b9071 e' hp' => [(1, .pointer (some ⟨g4626, 0, none⟩)), (5, .slice A4634 (l8956).length c4635), (6, .int .i64 ((k7700 : Int))), (8, .int .i64 (x8968.2)), (9, .int .i64 (x8986.Station - 1)), (20, .int .i64 (((List.replicate m4630 (([] : List Int) : (List Int))).length : Int))), (21, .int .i64 ((k7700 : Int))), (37, .pointer (some ⟨g8508, 0, none⟩)), (73, .bool (x9073))] = e' ∧ (g4626, Cl 28 [.slice A2 (s1.Stations).length c3, .slice A5 (s1.Sections).length c6, .slice A8 (s1.Links).length c9, .slice A11 (s1.Signals).length c12, .slice A14 (s1.Gates).length c15]) :: (hs8954 ++ (hs8972 ++ R)) = hp' ∧ b8951.Le b9071) ?_ ?_
         ·
          have hm := hj9074
          refine c_region ?_
          refine t_mv rfl rfl ?_
          refine t_bool rfl (st_geq rfl rfl) (fun hc9075 => ?_) (fun hc9075 => ?_)
          ·
           rw [if_pos hc9075] at hm
           refine t_mv rfl rfl ?_
           refine t_yes 53 rfl rfl rfl ?_
           refine t_mv rfl rfl ?_
           refine t_yes 53 rfl rfl rfl ?_
           refine t_mv rfl rfl ?_
           refine t_yes 53 rfl rfl rfl ?_
           obtain ⟨x9076, h9077, hm⟩ := bindS hm
           obtain ⟨j9078, hj9079, hx9080⟩ := idx_some h9077
           obtain ⟨cs9081, hs9086, P9087, P9088, hq9089, hr9082, hcs9083, hA9084, hlt9085, hb9090, hho9091⟩ := OS.get (sz := 1) rfl (by decide) h8955 hx9080
           obtain ⟨v9092, rfl, h9093⟩ := hr9082
           obtain ⟨A9094, c9095, rfl, _⟩ := h9093.form
           refine t_st rfl (st_index_old j9078 rfl rfl hj9079 hlt9085 hA9084 sl45) ?_
           refine t_yes 53 rfl rfl rfl ?_
           refine t_st rfl (st_load_rd rfl one48 (fun w ho => hcs9083 w _ ho (.cons _ (.cons _ (sub_skip hs8972 (List.sublist_append_left _ _)))) 0 _ rfl)) ?_
           refine t_yes 53 rfl rfl rfl ?_
           refine t_mv rfl rfl ?_
           refine t_yes 53 rfl rfl rfl ?_
           obtain ⟨x9096, h9097, hm⟩ := bindS hm
           obtain ⟨j9098, hj9099, hx9100⟩ := idx_some h9097
           obtain ⟨cs9101, hs9106, P9107, P9108, hq9109, hr9102, hcs9103, hA9104, hlt9105, hb9110, _⟩ := OS.get (sz := 1) rfl (by decide) h9093 hx9100
           obtain ⟨rfl, rfl⟩ := hr9102
           have hcs9111 := fun (w : World) (hp : Hp) (ho : Own b8951 hp w) (hh : hs8954.Sublist hp) => hcs9103 w hp ho ((show hs9086.Sublist hs8954 by rw [hq9089]; exact sub_skip _ (List.sublist_append_left _ _)).trans hh)
           refine t_st rfl (st_index_old j9098 rfl rfl hj9099 hlt9105 hA9104 sl48) ?_
           refine t_yes 53 rfl rfl rfl ?_
           refine t_st rfl (st_load_rd rfl one3 (fun w ho => hcs9111 w _ ho (.cons _ (.cons _ (sub_skip hs8972 (List.sublist_append_left _ _)))) 0 _ rfl)) ?_
           refine t_yes 53 rfl rfl rfl ?_
           refine t_bool rfl (st_lss rfl rfl) (fun hc9112 => ?_) (fun hc9112 => ?_)
           ·
            rw [if_pos hc9112] at hm
            refine t_yes 53 rfl rfl rfl ?_
            refine t_mv rfl rfl ?_
            refine t_no 62 rfl rfl rfl rfl rfl ?_
            refine t_no 62 rfl rfl rfl rfl rfl ?_
            refine t_no 62 rfl rfl rfl rfl rfl ?_
            refine t_no 62 rfl rfl rfl rfl rfl ?_
            refine t_no 62 rfl rfl rfl rfl rfl ?_
            refine t_no 62 rfl rfl rfl rfl rfl ?_
            refine t_no 62 rfl rfl rfl rfl rfl ?_
            refine t_no 62 rfl rfl rfl rfl rfl ?_
            refine t_no 62 rfl rfl rfl rfl rfl ?_
            refine t_yes 53 rfl rfl rfl ?_
            refine t_st rfl (st_pick_t rfl rfl) ?_
            refine t_st rfl (st_pick_t rfl rfl) ?_
            refine t_nil ?_
            obtain rfl := some1 hm
            refine x_pullb 1 rfl ?_
            refine x_front2 [_, _] hs8972 hs8954 R rfl ?_
            exact x_join (e' := [(1, .pointer (some ⟨g4626, 0, none⟩)), (5, .slice A4634 (l8956).length c4635), (6, .int .i64 ((k7700 : Int))), (8, .int .i64 (x8968.2)), (9, .int .i64 (x8986.Station - 1)), (20, .int .i64 (((List.replicate m4630 (([] : List Int) : (List Int))).length : Int))), (21, .int .i64 ((k7700 : Int))), (37, .pointer (some ⟨g8508, 0, none⟩)), (73, .bool (true))]) ⟨rfl, rfl, rfl, rfl, rfl, rfl, rfl, rfl, rfl, trivial⟩ (.cons_cons _ (.cons _ (.refl _))) ⟨rfl, rfl, (Base.Le.refl _)⟩
           ·
            rw [if_neg hc9112] at hm
            refine t_yes 53 rfl rfl rfl ?_
            refine t_mv rfl rfl ?_
            refine t_yes 62 rfl rfl rfl ?_
            refine t_mv rfl rfl ?_
            refine t_yes 62 rfl rfl rfl ?_
            refine t_mv rfl rfl ?_
            refine t_yes 62 rfl rfl rfl ?_
            refine t_mv rfl rfl ?_
            refine t_yes 62 rfl rfl rfl ?_
            obtain ⟨x9113, h9114, hm⟩ := bindS hm
            obtain ⟨j9115, hj9116, hx9117⟩ := idx_some h9114
            obtain ⟨cs9118, hs9123, P9124, P9125, hq9126, hr9119, hcs9120, hA9121, hlt9122, hb9127, hho9128⟩ := OS.get (sz := 1) rfl (by decide) h8955 hx9117
            obtain ⟨v9129, rfl, h9130⟩ := hr9119
            obtain ⟨A9131, c9132, rfl, _⟩ := h9130.form
            refine t_st rfl (st_index_old j9115 rfl rfl hj9116 hlt9122 hA9121 sl45) ?_
            refine t_yes 62 rfl rfl rfl ?_
            refine t_st rfl (st_load_rd rfl one48 (fun w ho => hcs9120 w _ ho (.cons _ (.cons _ (sub_skip hs8972 (List.sublist_append_left _ _)))) 0 _ rfl)) ?_
            refine t_yes 62 rfl rfl rfl ?_
            refine t_mv rfl rfl ?_
            refine t_yes 62 rfl rfl rfl ?_
            obtain ⟨x9133, h9134, hm⟩ := bindS hm
            obtain ⟨j9135, hj9136, hx9137⟩ := idx_some h9134
            obtain ⟨cs9138, hs9143, P9144, P9145, hq9146, hr9139, hcs9140, hA9141, hlt9142, hb9147, _⟩ := OS.get (sz := 1) rfl (by decide) h9130 hx9137
            obtain ⟨rfl, rfl⟩ := hr9139
            have hcs9148 := fun (w : World) (hp : Hp) (ho : Own b8951 hp w) (hh : hs8954.Sublist hp) => hcs9140 w hp ho ((show hs9123.Sublist hs8954 by rw [hq9126]; exact sub_skip _ (List.sublist_append_left _ _)).trans hh)
            refine t_st rfl (st_index_old j9135 rfl rfl hj9136 hlt9142 hA9141 sl48) ?_
            refine t_yes 62 rfl rfl rfl ?_
            refine t_st rfl (st_load_rd rfl one3 (fun w ho => hcs9148 w _ ho (.cons _ (.cons _ (sub_skip hs8972 (List.sublist_append_left _ _)))) 0 _ rfl)) ?_
            refine t_yes 62 rfl rfl rfl ?_
            refine t_st rfl (st_lss rfl rfl) ?_
            refine t_yes 53 rfl rfl rfl ?_
            refine t_st rfl (st_pick_f rfl rfl) ?_
            refine t_st rfl (st_pick_t rfl rfl) ?_
            refine t_nil ?_
            obtain rfl := some1 hm
            refine x_pullb 1 rfl ?_
            refine x_front2 [_, _] hs8972 hs8954 R rfl ?_
            exact x_join (e' := [(1, .pointer (some ⟨g4626, 0, none⟩)), (5, .slice A4634 (l8956).length c4635), (6, .int .i64 ((k7700 : Int))), (8, .int .i64 (x8968.2)), (9, .int .i64 (x8986.Station - 1)), (20, .int .i64 (((List.replicate m4630 (([] : List Int) : (List Int))).length : Int))), (21, .int .i64 ((k7700 : Int))), (37, .pointer (some ⟨g8508, 0, none⟩)), (73, .bool (decide (x8968.2 < x9133)))]) ⟨rfl, rfl, rfl, rfl, rfl, rfl, rfl, rfl, rfl, trivial⟩ (.cons_cons _ (.cons _ (.refl _))) ⟨rfl, rfl, (Base.Le.refl _)⟩
          ·
           rw [if_neg hc9075] at hm
           refine t_mv rfl rfl ?_
           refine t_no 53 rfl rfl rfl rfl rfl ?_
           refine t_no 53 rfl rfl rfl rfl rfl ?_
           refine t_no 53 rfl rfl rfl rfl rfl ?_
           refine t_no 53 rfl rfl rfl rfl rfl ?_
           refine t_no 53 rfl rfl rfl rfl rfl ?_
           refine t_no 53 rfl rfl rfl rfl rfl ?_
           refine t_no 53 rfl rfl rfl rfl rfl ?_
           refine t_no 53 rfl rfl rfl rfl rfl ?_
           refine t_no 53 rfl rfl rfl rfl rfl ?_
           refine t_no 62 rfl rfl rfl rfl rfl ?_
           refine t_no 62 rfl rfl rfl rfl rfl ?_
           refine t_no 62 rfl rfl rfl rfl rfl ?_
           refine t_no 62 rfl rfl rfl rfl rfl ?_
           refine t_no 62 rfl rfl rfl rfl rfl ?_
           refine t_no 62 rfl rfl rfl rfl rfl ?_
           refine t_no 62 rfl rfl rfl rfl rfl ?_
           refine t_no 62 rfl rfl rfl rfl rfl ?_
           refine t_no 62 rfl rfl rfl rfl rfl ?_
           refine t_no 53 rfl rfl rfl rfl rfl ?_
           refine t_st rfl (st_pick_f rfl rfl) ?_
           refine t_nil ?_
           obtain rfl := some1 hm
           refine x_pullb 1 rfl ?_
           refine x_front2 [_, _] hs8972 hs8954 R rfl ?_
           exact x_join (e' := [(1, .pointer (some ⟨g4626, 0, none⟩)), (5, .slice A4634 (l8956).length c4635), (6, .int .i64 ((k7700 : Int))), (8, .int .i64 (x8968.2)), (9, .int .i64 (x8986.Station - 1)), (20, .int .i64 (((List.replicate m4630 (([] : List Int) : (List Int))).length : Int))), (21, .int .i64 ((k7700 : Int))), (37, .pointer (some ⟨g8508, 0, none⟩)), (73, .bool (false))]) ⟨rfl, rfl, rfl, rfl, rfl, rfl, rfl, rfl, rfl, trivial⟩ (.cons_cons _ (.cons _ (.refl _))) ⟨rfl, rfl, (Base.Le.refl _)⟩
         ·
          rintro b9071 _ _ ⟨rfl, rfl, hle9072⟩
          have hm := hk9074
          refine c_cond _ rfl (fun hc9149 => ?_) (fun hc9149 => ?_)
          ·
           rw [if_pos hc9149] at hm
           refine c_region ?_
           refine t_mv rfl rfl ?_
           refine t_mv rfl rfl ?_
           obtain ⟨x9150, h9151, hm⟩ := bindS hm
           obtain ⟨j9152, hj9153, hx9154⟩ := idx_some h9151
           obtain ⟨cs9155, hs9160, P9161, P9162, hq9163, hr9156, hcs9157, hA9158, hlt9159, hb9164, hho9165⟩ := OS.get (sz := 1) rfl (by decide) (h8955.le hle9072) hx9154
           obtain ⟨v9166, rfl, h9167⟩ := hr9156
           obtain ⟨A9168, c9169, rfl, _⟩ := h9167.form
           refine t_st rfl (st_index_old j9152 rfl rfl hj9153 hlt9159 hA9158 sl45) ?_
           refine t_st rfl (st_load_rd rfl one48 (fun w ho => hcs9157 w _ ho (.cons _ (List.sublist_append_left _ _)) 0 _ rfl)) ?_
           refine t_mv rfl rfl ?_
           refine t_mv rfl rfl ?_
           obtain ⟨x9170, h9171, hm⟩ := bindS hm
           obtain ⟨j9172, hj9173, hx9174⟩ := idx_some h9171
           obtain ⟨cs9175, hs9180, P9181, P9182, hq9183, hr9176, hcs9177, hA9178, hlt9179, hb9184, _⟩ := OS.get (sz := 1) rfl (by decide) h9167 hx9174
           obtain ⟨rfl, rfl⟩ := hr9176
           have hcs9185 := fun (w : World) (hp : Hp) (ho : Own b9071 hp w) (hh : hs8954.Sublist hp) => hcs9177 w hp ho ((show hs9160.Sublist hs8954 by rw [hq9163]; exact sub_skip _ (List.sublist_append_left _ _)).trans hh)
           refine t_st rfl (st_index_old j9172 rfl rfl hj9173 hlt9179 hA9178 sl48) ?_
           refine t_do rfl (u_putIn hj9153 hj9173 (z' := x8968.2) (sz := 1) rfl [_] (hs8972 ++ R) 0 1 [.int .i64 (x8968.2)] rfl rfl hq9163 h9167 hb9164 hx9174 rfl rfl rfl siz3 rfl (mem_c rfl mem_n) (fun cs hsj hh => by obtain ⟨rfl, rfl⟩ := hh; exact ⟨by decide, rfl, rfl⟩)) ?_
           rintro _ _ ⟨hs9186, rfl, h9187⟩
           refine t_resp 5 rfl (v' := .slice A4634 (put l8956 (k7700 : Int) (put x9150 (x8986.Station - 1) x8968.2)).length c4635) (by simp only [put_length]) ?_
           refine t_nil ?_
           refine x_block_normal ?_
           refine x_front2 [_] hs9186 hs8972 R rfl ?_
           have hle9188 := (hle8952.trans hle9072)
           exact x_mapM (s' := put l8956 (k7700 : Int) (put x9150 (x8986.Station - 1) x8968.2)) [_] (hs9186 ++ R) rfl hperm8973 (hstep8978.trans (Option.some.inj hm ▸ rfl)) hle9188 (h8975.le hle9072) (e' := [(1, .pointer (some ⟨g4626, 0, none⟩)), (5, .slice A4634 (put l8956 (k7700 : Int) (put x9150 (x8986.Station - 1) x8968.2)).length c4635), (6, .int .i64 ((k7700 : Int))), (20, .int .i64 (((List.replicate m4630 (([] : List Int) : (List Int))).length : Int))), (21, .int .i64 ((k7700 : Int))), (37, .pointer (some ⟨g8508, 0, none⟩))]) ⟨rfl, rfl, rfl, rfl, rfl, rfl, trivial⟩ (.refl _) ⟨hs9186, rfl, rfl, ((hle8952.trans hle9072)), h9187, ((put_length _ _ _).trans hln8957)⟩
          ·
           rw [if_neg (fun hh => Bool.noConfusion (hh.symm.trans hc9149))] at hm
           refine c_skip ?_
           refine x_block_normal ?_
           refine x_front2 [_] hs8954 hs8972 R rfl ?_
           have hle9189 := (hle8952.trans hle9072)
           exact x_mapM (s' := l8956) [_] (hs8954 ++ R) rfl hperm8973 (hstep8978.trans (Option.some.inj hm ▸ rfl)) hle9189 (h8975.le hle9072) (e' := [(1, .pointer (some ⟨g4626, 0, none⟩)), (5, .slice A4634 (l8956).length c4635), (6, .int .i64 ((k7700 : Int))), (20, .int .i64 (((List.replicate m4630 (([] : List Int) : (List Int))).length : Int))), (21, .int .i64 ((k7700 : Int))), (37, .pointer (some ⟨g8508, 0, none⟩))]) ⟨rfl, rfl, rfl, rfl, rfl, rfl, trivial⟩ (.refl _) ⟨hs8954, rfl, rfl, ((hle8952.trans hle9072)), (h8955.le hle9072), hln8957⟩
       exact R_nil
      exact R_nil
     exact R_nil
    ·
     rintro b8459 _ _ ⟨hs8462, rfl, rfl, hle8460, h8463, hln8465⟩
     have hm := hk8466
     refine c_region ?_
     refine t_mv rfl rfl ?_
     refine t_mv rfl rfl ?_
     obtain ⟨x9190, h9191, hm⟩ := bindS hm
     obtain ⟨j9192, hj9193, hx9194⟩ := idx_some h9191
     obtain ⟨cs9195, hs9200, P9201, P9202, hq9203, hr9196, hcs9197, hA9198, hlt9199, hb9204, hho9205⟩ := OS.get (sz := 1) rfl (by decide) h8463 hx9194
     obtain ⟨v9206, rfl, h9207⟩ := hr9196
     obtain ⟨A9208, c9209, rfl, _⟩ := h9207.form
     refine t_st rfl (st_index_old j9192 rfl rfl hj9193 hlt9199 hA9198 sl45) ?_
     refine t_st rfl (st_load_rd rfl one48 (fun w ho => hcs9197 w _ ho (.cons _ (List.sublist_append_left _ _)) 0 _ rfl)) ?_
     refine t_mv rfl rfl ?_
     obtain ⟨x9210, h9211, hm⟩ := bindS hm
     obtain ⟨j9212, hj9213, hx9214⟩ := idx_some h9211
     obtain ⟨cs9215, hs9220, P9221, P9222, hq9223, hr9216, hcs9217, hA9218, hlt9219, hb9224, _⟩ := OS.get (sz := 1) rfl (by decide) h9207 hx9214
     obtain ⟨rfl, rfl⟩ := hr9216
     have hcs9225 := fun (w : World) (hp : Hp) (ho : Own b8459 hp w) (hh : hs8462.Sublist hp) => hcs9217 w hp ho ((show hs9200.Sublist hs8462 by rw [hq9203]; exact sub_skip _ (List.sublist_append_left _ _)).trans hh)
     refine t_st rfl (st_index_old j9212 rfl rfl hj9213 hlt9219 hA9218 sl48) ?_
     refine t_do rfl (u_putIn hj9193 hj9213 (z' := 0) (sz := 1) rfl [_] R 0 1 [.int .i64 (0)] rfl rfl hq9203 h9207 hb9204 hx9214 rfl rfl rfl siz3 rfl (mem_c rfl mem_n) (fun cs hsj hh => by obtain ⟨rfl, rfl⟩ := hh; exact ⟨by decide, rfl, rfl⟩)) ?_
     rintro _ _ ⟨hs9226, rfl, h9227⟩
     refine t_resp 5 rfl (v' := .slice A4634 (put l8464 (k7700 : Int) (put x9190 (k7700 : Int) 0)).length c4635) (by simp only [put_length]) ?_
     refine t_nil ?_
     refine x_block_normal ?_
     refine x_then_normal ?_
     refine c_region ?_
     refine t_st rfl (st_add rfl rfl (by omega)) ?_
     refine t_mv rfl rfl ?_
     refine t_nil ?_
     obtain rfl := some1 hm
     exact x_againS (e' := [(1, .pointer (some ⟨g4626, 0, none⟩)), (5, .slice A4634 (put l8464 (k7700 : Int) (put x9190 (k7700 : Int) 0)).length c4635), (20, .int .i64 (((List.replicate m4630 (([] : List Int) : (List Int))).length : Int))), (21, .int .i64 ((k7700 : Int) + 1))]) ⟨rfl, rfl, rfl, rfl, trivial⟩ (.refl _) ⟨hs9226, rfl, rfl, ((hle7694.trans hle8460)), h9227, ((put_length _ _ _).trans hln8465)⟩
   ·
    rintro b7693 _ _ ⟨hs7696, rfl, rfl, hle7694, h7697, hln7699⟩
    have hm := hk7702
    refine c_sr ?_
    refine t_st rfl (st_lss_f rfl rfl (by omega)) ?_
    refine t_ne ?_
    refine c_seq ?_
    refine c_cond_f rfl ?_
    refine c_exit ?_
    refine x_then_exit ?_
    refine x_then_exit ?_
    refine x_block_out ?_
    refine x_then_normal ?_
    refine c_sr ?_
    refine t_mv rfl rfl ?_
    refine t_as rfl rfl ?_
    refine t_as rfl rfl ?_
    refine t_ne ?_
    refine c_ret ?_
    obtain ⟨rfl, rfl⟩ := some2 hm
    exact retM (rs := [.tmp 2, .tmp 3]) [.slice A4634 (l7698).length c4635, .int .i64 (0)] hle7694 (by decide) rfl ⟨rfl, ⟨rfl, trivial⟩⟩ rfl (.cons _ (.refl _)) ⟨A4634, c4635, hs7696, rfl, rfl, h7697⟩

set_option maxRecDepth 20000 in
theorem cFishkeep1LineFar (b : Base) (R : Hp) (s1 : ApiNet) (A2 : Option Addr) (c3 : Nat) (A5 : Option Addr) (c6 : Nat) (A8 : Option Addr) (c9 : Nat) (A11 : Option Addr) (c12 : Nat) (A14 : Option Addr) (c15 : Nat) (h4 : FZ RT.str b.w A2 c3 s1.Stations) (h7 : FZ rApiSection b.w A5 c6 s1.Sections) (h10 : FZ rApiLink b.w A8 c9 s1.Links) (h13 : FZ rApiSignal b.w A11 c12 s1.Signals) (h16 : FZ rApiGate b.w A14 c15 s1.Gates) (x398 : Bool) (hm : mFishkeep1LineFar s1 = some x398) :
    CallsG Tryd.prog 4 [.agg #[.slice A2 (s1.Stations).length c3, .slice A5 (s1.Sections).length c6, .slice A8 (s1.Links).length c9, .slice A11 (s1.Signals).length c12, .slice A14 (s1.Gates).length c15]] b (R) (fun v b' hp' => .bool (x398) = v ∧ R = hp') := by
  refine fn_enterG 68 Tryd.func4 rfl Tryd.ntmps4 rfl ?_
  unfold mFishkeep1LineFar at hm
  refine c_sr ?_
  refine t_do rfl (u_box _ rfl rfl) ?_
  rintro _ _ ⟨g399, rfl, rfl⟩
  refine t_as rfl rfl ?_
  refine t_ne ?_
  refine c_seq ?_
  refine c_sr ?_
  obtain ⟨x400, hcl401, hm⟩ := bindS hm
  refine t_do rfl (u_callW0 _ call7 rfl (fun w ho => cFishkeep1AwakeLine _ [] x400 hcl401) (fun _ _ _ h => h.2.symm)) ?_
  rintro _ _ ⟨⟨_, rfl, _⟩, rfl⟩
  refine t_st rfl (st_not rfl) ?_
  refine t_ne ?_
  refine c_cond _ rfl (fun hc402 => ?_) (fun hc402 => ?_)
  ·
   rw [if_neg (fun hh => Bool.noConfusion (hh.symm.trans (notT hc402)))] at hm
   refine c_sr ?_
   refine t_as rfl rfl ?_
   refine t_ne ?_
   refine c_ret ?_
   refine x_then_ret ?_
   obtain rfl := some1 hm
   exact retM (rs := [.tmp 2]) [.bool (false)] (Base.Le.refl _) (by decide) rfl ⟨rfl, trivial⟩ rfl (.cons _ (.refl _)) ⟨rfl, rfl⟩
  ·
   rw [if_pos (notF hc402)] at hm
   refine c_skip ?_
   refine x_then_normal ?_
   refine c_sr ?_
   refine t_st rfl (st_loadD (vs := [_, _, _, _, _]) 0 5 rfl agg28 rfl rfl rfl) ?_
   obtain ⟨⟨x403, l404⟩, hcl405, hm⟩ := bindS hm
   have hm := (unc2E hm)
   refine t_callG _ rfl call13 rfl (cLineApart _ _ s1 A2 c3 A5 c6 A8 c9 A11 c12 A14 c15 h4 h7 h10 h13 h16 x403 l404 hcl405) ?_
   rintro _ b406 _ hle407 ⟨A408, c409, hs410, rfl, rfl, h411⟩
   refine t_in1 [] [_] hs410 R rfl ?_
   refine t_mv rfl rfl ?_
   refine t_st rfl (st_extract rfl rfl) ?_
   refine t_st rfl (st_extract rfl rfl) ?_
   refine t_frz [_] hs410 R rfl ?_
   intro b412 hle413 hz414
   have h415 := OS.frz (l := l404) h411 hle413.cells hz414
   refine t_as rfl rfl ?_
   refine t_as rfl rfl ?_
   refine t_ne ?_
   refine c_seq ?_
   refine c_sr ?_
   refine t_mv rfl rfl ?_
   refine t_st rfl (st_neq rfl rfl) ?_
   refine t_ne ?_
   refine c_cond _ rfl (fun hc416 => ?_) (fun hc416 => ?_)
   ·
    rw [if_pos (of_decide_eq_true hc416)] at hm
    refine c_sr ?_
    refine t_mv rfl rfl ?_
    refine t_st rfl (st_len rfl sl45) ?_
    refine t_st rfl (st_eql rfl rfl) ?_
    refine t_as rfl rfl ?_
    refine t_ne ?_
    refine c_ret ?_
    refine x_then_ret ?_
    obtain rfl := some1 hm
    exact retM (rs := [.tmp 2]) [.bool (decide ((l404.length : Int) = 0))] (hle407.trans hle413) (by decide) rfl ⟨rfl, trivial⟩ rfl (.cons _ (.refl _)) ⟨rfl, rfl⟩
   ·
    rw [if_neg (of_decide_eq_false hc416)] at hm
    refine c_skip ?_
    refine x_then_normal ?_
    refine c_seq ?_
    refine c_sr ?_
    refine t_mv rfl rfl ?_
    refine t_st rfl (st_len rfl sl45) ?_
    refine t_st rfl (st_field rfl fld28_0) ?_
    refine t_st rfl (st_load 0 rfl one22 rfl rfl) ?_
    refine t_st rfl (st_len rfl sl22) ?_
    refine t_st rfl (st_neq rfl rfl) ?_
    refine t_ne ?_
    refine c_cond _ rfl (fun hc417 => ?_) (fun hc417 => ?_)
    ·
     rw [if_pos (of_decide_eq_true hc417)] at hm
     refine c_sr ?_
     refine t_as rfl rfl ?_
     refine t_ne ?_
     refine c_ret ?_
     refine x_then_ret ?_
     obtain rfl := some1 hm
     exact retM (rs := [.tmp 2]) [.bool (false)] (hle407.trans hle413) (by decide) rfl ⟨rfl, trivial⟩ rfl (.cons _ (.refl _)) ⟨rfl, rfl⟩
    ·
     rw [if_neg (of_decide_eq_false hc417)] at hm
     refine c_skip ?_
     refine x_then_normal ?_
     refine c_seq ?_
     refine c_sr ?_
     refine t_mv rfl rfl ?_
     refine t_st rfl (st_len rfl sl45) ?_
     refine t_mv rfl rfl ?_
     refine t_ne ?_
     refine c_block ?_
     have hb419 : l404.length ≤ 9223372036854775807 := (FZ.bd h415)
     obtain ⟨t598, hl599, hk600⟩ := bindS hm
     refine c_forM (fun k597 => fun _ => fun b595 e' hp' => [(3, .slice A408 (l404).length c409), (27, .slice A408 (l404).length c409), (28, .int .i64 ((l404.length : Int))), (29, .int .i64 ((k597 : Int)))] = e' ∧ R = hp' ∧ b412.Le b595) hl599 (e' := [(3, .slice A408 (l404).length c409), (27, .slice A408 (l404).length c409), (28, .int .i64 ((l404.length : Int))), (29, .int .i64 0)]) ⟨rfl, rfl, rfl, rfl, trivial⟩ (.cons _ (.refl _)) ⟨rfl, rfl, (Base.Le.refl _)⟩ ?_ ?_
     ·
      rintro k597 _ b595 _ _ oL418 hknL418 ⟨rfl, rfl, hle596⟩ hstepL418 houtL418
      unfold mFishkeep1LineFar_L418 at hstepL418
      have hm := hstepL418
      refine c_sr ?_
      refine t_st rfl (st_lss_t rfl rfl (by omega)) ?_
      refine t_ne ?_
      refine c_seq ?_
      refine c_cond_t rfl ?_
      refine c_skip ?_
      refine x_then_normal ?_
      refine c_seq ?_
      refine c_block ?_
      refine c_sr ?_
      refine t_mv rfl rfl ?_
      obtain ⟨x601, h602, hm⟩ := bindS hm
      obtain ⟨j603, hj604, hx605⟩ := idx_some h602
      obtain ⟨cs606, hr607, hcs608, hA609, hlt610⟩ := FZ.get (sz := 1) rfl (by decide) (h415.le hle596) hx605
      obtain ⟨A611, c612, rfl, h613⟩ := hr607
      refine t_st rfl (st_index_old j603 rfl rfl hj604 hlt610 hA609 sl45) ?_
      refine t_st rfl (st_load_old rfl one48 (hcs608 0 _ rfl)) ?_
      refine t_as rfl rfl ?_
      refine t_as rfl rfl ?_
      refine t_ne ?_
      refine c_seq ?_
      obtain ⟨x627, hj628, hk628⟩ := bindS hm
      refine c_join (fun b625 e' hp' => [(3, .slice A408 (l404).length c409), (5, .int .i64 ((k597 : Int))), (6, .slice A611 (x601).length c612), (27, .slice A408 (l404).length c409), (28, .int .i64 ((l404.length : Int))), (29, .int .i64 ((k597 : Int))), (45, .bool (x627))] = e' ∧ R = hp' ∧ b595.Le b625) ?_ ?_
      ·
       have hm := hj628
       refine c_region ?_
       refine t_mv rfl rfl ?_
       refine t_st rfl (st_len rfl sl48) ?_
       refine t_mv rfl rfl ?_
       refine t_st rfl (st_len rfl sl45) ?_
       refine t_bool rfl (st_neq rfl rfl) (fun hc629 => ?_) (fun hc629 => ?_)
       ·
        rw [if_pos hc629] at hm
        refine t_mv rfl rfl ?_
        refine t_no 39 rfl rfl rfl rfl rfl ?_
        refine t_no 39 rfl rfl rfl rfl rfl ?_
        refine t_no 39 rfl rfl rfl rfl rfl ?_
        refine t_no 39 rfl rfl rfl rfl rfl ?_
        refine t_no 39 rfl rfl rfl rfl rfl ?_
        refine t_st rfl (st_pick_t rfl rfl) ?_
        refine t_nil ?_
        obtain rfl := some1 hm
        exact x_join (e' := [(3, .slice A408 (l404).length c409), (5, .int .i64 ((k597 : Int))), (6, .slice A611 (x601).length c612), (27, .slice A408 (l404).length c409), (28, .int .i64 ((l404.length : Int))), (29, .int .i64 ((k597 : Int))), (45, .bool (true))]) ⟨rfl, rfl, rfl, rfl, rfl, rfl, rfl, trivial⟩ (.refl _) ⟨rfl, rfl, (Base.Le.refl _)⟩
       ·
        rw [if_neg hc629] at hm
        refine t_mv rfl rfl ?_
        refine t_yes 39 rfl rfl rfl ?_
        refine t_mv rfl rfl ?_
        refine t_yes 39 rfl rfl rfl ?_
        refine t_mv rfl rfl ?_
        refine t_yes 39 rfl rfl rfl ?_
        obtain ⟨x630, h631, hm⟩ := bindS hm
        obtain ⟨j632, hj633, hx634⟩ := idx_some h631
        obtain ⟨cs635, hr636, hcs637, hA638, hlt639⟩ := FZ.get (sz := 1) rfl (by decide) h613 hx634
        obtain rfl := hr636
        refine t_st rfl (st_index_old j632 rfl rfl hj633 hlt639 hA638 sl48) ?_
        refine t_yes 39 rfl rfl rfl ?_
        refine t_st rfl (st_load_old rfl one3 (hcs637 0 _ rfl)) ?_
        refine t_yes 39 rfl rfl rfl ?_
        refine t_st rfl (st_neq rfl rfl) ?_
        refine t_st rfl (st_pick_f rfl rfl) ?_
        refine t_nil ?_
        obtain rfl := some1 hm
        exact x_join (e' := [(3, .slice A408 (l404).length c409), (5, .int .i64 ((k597 : Int))), (6, .slice A611 (x601).length c612), (27, .slice A408 (l404).length c409), (28, .int .i64 ((l404.length : Int))), (29, .int .i64 ((k597 : Int))), (45, .bool (decide (x630 ≠ 0)))]) ⟨rfl, rfl, rfl, rfl, rfl, rfl, rfl, trivial⟩ (.refl _) ⟨rfl, rfl, (Base.Le.refl _)⟩
      ·
       rintro b625 _ _ ⟨rfl, rfl, hle626⟩
       have hm := hk628
       refine c_cond _ rfl (fun hc640 => ?_) (fun hc640 => ?_)
       ·
        rw [if_pos hc640] at hm
        refine c_sr ?_
        refine t_as rfl rfl ?_
        refine t_ne ?_
        refine c_ret ?_
        refine x_then_ret ?_
        refine x_block_ret ?_
        refine x_then_ret ?_
        refine x_then_ret ?_
        refine x_block_ret ?_
        refine x_then_ret ?_
        have hq641 := houtL418 _ (Option.some.inj hm).symm
        rw [hq641] at hk600
        have hm := elimR hk600
        obtain rfl := some1 hm
        exact retM (rs := [.tmp 2]) [.bool (false)] (hle407.trans (hle413.trans (hle596.trans hle626))) (by decide) rfl ⟨rfl, trivial⟩ rfl (.refl _) ⟨rfl, rfl⟩
       ·
        rw [if_neg (fun hh => Bool.noConfusion (hh.symm.trans hc640))] at hm
        refine c_skip ?_
        refine x_then_normal ?_
        refine c_sr ?_
        refine t_mv rfl rfl ?_
        refine t_st rfl (st_len rfl sl48) ?_
        refine t_mv rfl rfl ?_
        refine t_ne ?_
        refine c_block ?_
        have hb643 : x601.length ≤ 9223372036854775807 := (FZ.bd (h613.le hle626))
        obtain ⟨t710, hl711, hk712⟩ := bindS hm
        refine c_forM (fun k709 => fun _ => fun b707 e' hp' => [(3, .slice A408 (l404).length c409), (5, .int .i64 ((k597 : Int))), (27, .slice A408 (l404).length c409), (28, .int .i64 ((l404.length : Int))), (29, .int .i64 ((k597 : Int))), (46, .slice A611 (x601).length c612), (47, .int .i64 ((x601.length : Int))), (48, .int .i64 ((k709 : Int)))] = e' ∧ R = hp' ∧ b625.Le b707) hl711 (e' := [(3, .slice A408 (l404).length c409), (5, .int .i64 ((k597 : Int))), (27, .slice A408 (l404).length c409), (28, .int .i64 ((l404.length : Int))), (29, .int .i64 ((k597 : Int))), (46, .slice A611 (x601).length c612), (47, .int .i64 ((x601.length : Int))), (48, .int .i64 0)]) ⟨rfl, rfl, rfl, rfl, rfl, rfl, rfl, rfl, trivial⟩ (.refl _) ⟨rfl, rfl, (Base.Le.refl _)⟩ ?_ ?_
        ·
         rintro k709 _ b707 _ _ oL642 hknL642 ⟨rfl, rfl, hle708⟩ hstepL642 houtL642
         unfold mFishkeep1LineFar_L642 at hstepL642
         have hm := hstepL642
         refine c_sr ?_
         refine t_st rfl (st_lss_t rfl rfl (by omega)) ?_
         refine t_ne ?_
         refine c_seq ?_
         refine c_cond_t rfl ?_
         refine c_skip ?_
         refine x_then_normal ?_
         refine c_seq ?_
         refine c_block ?_
         refine c_sr ?_
         refine t_mv rfl rfl ?_
         obtain ⟨x713, h714, hm⟩ := bindS hm
         obtain ⟨j715, hj716, hx717⟩ := idx_some h714
         obtain ⟨cs718, hr719, hcs720, hA721, hlt722⟩ := FZ.get (sz := 1) rfl (by decide) (h613.le (hle626.trans hle708)) hx717
         obtain rfl := hr719
         refine t_st rfl (st_index_old j715 rfl rfl hj716 hlt722 hA721 sl48) ?_
         refine t_st rfl (st_load_old rfl one3 (hcs720 0 _ rfl)) ?_
         refine t_as rfl rfl ?_
         refine t_as rfl rfl ?_
         refine t_ne ?_
         obtain ⟨x749, hj750, hk750⟩ := bindS hm
         refine c_join (fun b747 e' hp' => [(3, .slice A408 (l404).length c409), (5, .int .i64 ((k597 : Int))), (27, .slice A408 (l404).length c409), (28, .int .i64 ((l404.length : Int))), (29, .int .i64 ((k597 : Int))), (46, .slice A611 (x601).length c612), (47, .int .i64 ((x601.length : Int))), (48, .int .i64 ((k709 : Int))), (65, .bool (x749))] = e' ∧ R = hp' ∧ b707.Le b747) ?_ ?_
         ·
          have hm := hj750
          refine c_region ?_
          refine t_mv rfl rfl ?_
          refine t_bool rfl (st_lss rfl rfl) (fun hc751 => ?_) (fun hc751 => ?_)
          ·
           rw [if_pos hc751] at hm
           refine t_mv rfl rfl ?_
           refine t_no 55 rfl rfl rfl rfl rfl ?_
           refine t_no 55 rfl rfl rfl rfl rfl ?_
           refine t_no 55 rfl rfl rfl rfl rfl ?_
           refine t_no 55 rfl rfl rfl rfl rfl ?_
           refine t_no 55 rfl rfl rfl rfl rfl ?_
           refine t_no 55 rfl rfl rfl rfl rfl ?_
           refine t_no 55 rfl rfl rfl rfl rfl ?_
           refine t_no 55 rfl rfl rfl rfl rfl ?_
           refine t_no 55 rfl rfl rfl rfl rfl ?_
           refine t_st rfl (st_pick_t rfl rfl) ?_
           refine t_nil ?_
           obtain rfl := some1 hm
           exact x_join (e' := [(3, .slice A408 (l404).length c409), (5, .int .i64 ((k597 : Int))), (27, .slice A408 (l404).length c409), (28, .int .i64 ((l404.length : Int))), (29, .int .i64 ((k597 : Int))), (46, .slice A611 (x601).length c612), (47, .int .i64 ((x601.length : Int))), (48, .int .i64 ((k709 : Int))), (65, .bool (true))]) ⟨rfl, rfl, rfl, rfl, rfl, rfl, rfl, rfl, rfl, trivial⟩ (.refl _) ⟨rfl, rfl, (Base.Le.refl _)⟩
          ·
           rw [if_neg hc751] at hm
           refine t_mv rfl rfl ?_
           refine t_yes 55 rfl rfl rfl ?_
           refine t_mv rfl rfl ?_
           refine t_yes 55 rfl rfl rfl ?_
           refine t_mv rfl rfl ?_
           refine t_yes 55 rfl rfl rfl ?_
           obtain ⟨x752, h753, hm⟩ := bindS hm
           obtain ⟨j754, hj755, hx756⟩ := idx_some h753
           obtain ⟨cs757, hr758, hcs759, hA760, hlt761⟩ := FZ.get (sz := 1) rfl (by decide) (h415.le (hle596.trans (hle626.trans hle708))) hx756
           obtain ⟨A762, c763, rfl, h764⟩ := hr758
           refine t_st rfl (st_index_old j754 rfl rfl hj755 hlt761 hA760 sl45) ?_
           refine t_yes 55 rfl rfl rfl ?_
           refine t_st rfl (st_load_old rfl one48 (hcs759 0 _ rfl)) ?_
           refine t_yes 55 rfl rfl rfl ?_
           refine t_mv rfl rfl ?_
           refine t_yes 55 rfl rfl rfl ?_
           obtain ⟨x765, h766, hm⟩ := bindS hm
           obtain ⟨j767, hj768, hx769⟩ := idx_some h766
           obtain ⟨cs770, hr771, hcs772, hA773, hlt774⟩ := FZ.get (sz := 1) rfl (by decide) h764 hx769
           obtain rfl := hr771
           refine t_st rfl (st_index_old j767 rfl rfl hj768 hlt774 hA773 sl48) ?_
           refine t_yes 55 rfl rfl rfl ?_
           refine t_st rfl (st_load_old rfl one3 (hcs772 0 _ rfl)) ?_
           refine t_yes 55 rfl rfl rfl ?_
           refine t_mv rfl rfl ?_
           refine t_yes 55 rfl rfl rfl ?_
           refine t_st rfl (st_neq rfl rfl) ?_
           refine t_st rfl (st_pick_f rfl rfl) ?_
           refine t_nil ?_
           obtain rfl := some1 hm
           exact x_join (e' := [(3, .slice A408 (l404).length c409), (5, .int .i64 ((k597 : Int))), (27, .slice A408 (l404).length c409), (28, .int .i64 ((l404.length : Int))), (29, .int .i64 ((k597 : Int))), (46, .slice A611 (x601).length c612), (47, .int .i64 ((x601.length : Int))), (48, .int .i64 ((k709 : Int))), (65, .bool (decide (x765 ≠ x713)))]) ⟨rfl, rfl, rfl, rfl, rfl, rfl, rfl, rfl, rfl, trivial⟩ (.refl _) ⟨rfl, rfl, (Base.Le.refl _)⟩
         ·
          rintro b747 _ _ ⟨rfl, rfl, hle748⟩
          have hm := hk750
          refine c_cond _ rfl (fun hc775 => ?_) (fun hc775 => ?_)
          ·
           rw [if_pos hc775] at hm
           refine c_sr ?_
           refine t_as rfl rfl ?_
           refine t_ne ?_
           refine c_ret ?_
           refine x_block_ret ?_
           refine x_then_ret ?_
           refine x_then_ret ?_
           refine x_block_ret ?_
           refine x_block_ret ?_
           refine x_then_ret ?_
           refine x_then_ret ?_
           refine x_block_ret ?_
           refine x_then_ret ?_
           have hq776 := houtL642 _ (Option.some.inj hm).symm
           rw [hq776] at hk712
           have hm := elimR hk712
           have hq777 := houtL418 _ (Option.some.inj hm).symm
           rw [hq777] at hk600
           have hm := elimR hk600
           obtain rfl := some1 hm
           exact retM (rs := [.tmp 2]) [.bool (false)] (hle407.trans (hle413.trans (hle596.trans (hle626.trans (hle708.trans hle748))))) (by decide) rfl ⟨rfl, trivial⟩ rfl (.refl _) ⟨rfl, rfl⟩
          ·
           rw [if_neg (fun hh => Bool.noConfusion (hh.symm.trans hc775))] at hm
           refine c_skip ?_
           refine x_block_normal ?_
           refine x_then_normal ?_
           refine c_region ?_
           refine t_st rfl (st_add rfl rfl (by omega)) ?_
           refine t_mv rfl rfl ?_
           refine t_nil ?_
           exact x_againM () (Option.some.inj hm).symm (e' := [(3, .slice A408 (l404).length c409), (5, .int .i64 ((k597 : Int))), (27, .slice A408 (l404).length c409), (28, .int .i64 ((l404.length : Int))), (29, .int .i64 ((k597 : Int))), (46, .slice A611 (x601).length c612), (47, .int .i64 ((x601.length : Int))), (48, .int .i64 ((k709 : Int) + 1))]) ⟨rfl, rfl, rfl, rfl, rfl, rfl, rfl, rfl, trivial⟩ (.refl _) ⟨rfl, rfl, ((hle708.trans hle748))⟩
        ·
         rintro _ b707 _ _ ⟨rfl, rfl, hle708⟩ hq778
         rw [hq778] at hk712
         have hm := elimL hk712
         refine c_sr ?_
         refine t_st rfl (st_lss_f rfl rfl (by omega)) ?_
         refine t_ne ?_
         refine c_seq ?_
         refine c_cond_f rfl ?_
         refine c_exit ?_
         refine x_then_exit ?_
         refine x_then_exit ?_
         refine x_block_out ?_
         refine x_block_normal ?_
         refine x_then_normal ?_
         refine c_region ?_
         refine t_st rfl (st_add rfl rfl (by omega)) ?_
         refine t_mv rfl rfl ?_
         refine t_nil ?_
         exact x_againM () (Option.some.inj hm).symm (e' := [(3, .slice A408 (l404).length c409), (27, .slice A408 (l404).length c409), (28, .int .i64 ((l404.length : Int))), (29, .int .i64 ((k597 : Int) + 1))]) ⟨rfl, rfl, rfl, rfl, trivial⟩ (.refl _) ⟨rfl, rfl, ((hle596.trans (hle626.trans hle708)))⟩
     ·
      rintro _ b595 _ _ ⟨rfl, rfl, hle596⟩ hq779
      rw [hq779] at hk600
      have hm := elimL hk600
      refine c_sr ?_
      refine t_st rfl (st_lss_f rfl rfl (by omega)) ?_
      refine t_ne ?_
      refine c_seq ?_
      refine c_cond_f rfl ?_
      refine c_exit ?_
      refine x_then_exit ?_
      refine x_then_exit ?_
      refine x_block_out ?_
      refine x_then_normal ?_
      refine c_sr ?_
      refine t_as rfl rfl ?_
      refine t_ne ?_
      refine c_ret ?_
      obtain rfl := some1 hm
      exact retM (rs := [.tmp 2]) [.bool (true)] (hle407.trans (hle413.trans hle596)) (by decide) rfl ⟨rfl, trivial⟩ rfl (.refl _) ⟨rfl, rfl⟩

end Go.Proofs.YtcibjjhanafojaaDoor
