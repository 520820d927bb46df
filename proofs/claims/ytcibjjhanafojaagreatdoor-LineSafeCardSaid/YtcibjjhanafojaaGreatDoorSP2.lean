/- Contracts: the code computes its model (part 2). -/
import Derived.Test.YtcibjjhanafojaaGreatDoorSP1
set_option linter.unusedVariables false
set_option linter.unusedSimpArgs false
namespace Go.Proofs.YtcibjjhanafojaaGreatDoor
open Go.RowKit Go.Fp

set_option maxRecDepth 20000 in
theorem cLineCheckSignals (b : Base) (R : Hp) (s1 : ApiNet) (A2 : Option Addr) (c3 : Nat) (A5 : Option Addr) (c6 : Nat) (A8 : Option Addr) (c9 : Nat) (A11 : Option Addr) (c12 : Nat) (A14 : Option Addr) (c15 : Nat) (h4 : FZ RT.str b.w A2 c3 s1.Stations) (h7 : FZ rApiSection b.w A5 c6 s1.Sections) (h10 : FZ rApiLink b.w A8 c9 s1.Links) (h13 : FZ rApiSignal b.w A11 c12 s1.Signals) (h16 : FZ rApiGate b.w A14 c15 s1.Gates) (x236 : Int) (hm : mLineCheckSignals s1 = some x236) :
    CallsG Tryz.prog 45 [.agg #[.slice A2 (s1.Stations).length c3, .slice A5 (s1.Sections).length c6, .slice A8 (s1.Links).length c9, .slice A11 (s1.Signals).length c12, .slice A14 (s1.Gates).length c15]] b (R) (fun v b' hp' => .int .i64 (x236) = v ∧ R = hp') := by
  refine fn_enterG 66 Tryz.func45 rfl Tryz.ntmps45 rfl ?_
  unfold mLineCheckSignals at hm
  refine c_sr ?_
  refine t_do rfl (u_box _ rfl rfl) ?_
  rintro _ _ ⟨g237, rfl, rfl⟩
  refine t_as rfl rfl ?_
  refine t_ne ?_
  refine c_seq ?_
  refine c_sr ?_
  refine t_st rfl (st_field rfl fld28_3) ?_
  refine t_st rfl (st_load 0 rfl one25 rfl rfl) ?_
  refine t_st rfl (st_len rfl sl25) ?_
  refine t_mv rfl rfl ?_
  refine t_ne ?_
  refine c_block ?_
  have hb239 : s1.Signals.length ≤ 9223372036854775807 := (FZ.bd h13)
  obtain ⟨t346, hl347, hk348⟩ := bindS hm
  refine c_forM (fun k345 => fun _ => fun b343 e' hp' => [(1, .pointer (some ⟨g237, 0, none⟩)), (10, .slice A11 (s1.Signals).length c12), (11, .int .i64 ((s1.Signals.length : Int))), (12, .int .i64 ((k345 : Int)))] = e' ∧ (g237, Cl 28 [.slice A2 (s1.Stations).length c3, .slice A5 (s1.Sections).length c6, .slice A8 (s1.Links).length c9, .slice A11 (s1.Signals).length c12, .slice A14 (s1.Gates).length c15]) :: R = hp' ∧ b.Le b343) hl347 (e' := [(1, .pointer (some ⟨g237, 0, none⟩)), (10, .slice A11 (s1.Signals).length c12), (11, .int .i64 ((s1.Signals.length : Int))), (12, .int .i64 0)]) ⟨rfl, rfl, rfl, rfl, trivial⟩ (.refl _) ⟨rfl, rfl, (Base.Le.refl _)⟩ ?_ ?_
  ·
   rintro k345 _ b343 _ _ oL238 hknL238 ⟨rfl, rfl, hle344⟩ hstepL238 houtL238
   unfold mLineCheckSignals_L238 at hstepL238
   have hm := hstepL238
   refine c_sr ?_
   refine t_st rfl (st_lss_t rfl rfl (by omega)) ?_
   refine t_ne ?_
   refine c_seq ?_
   refine c_cond_t rfl ?_
   refine c_skip ?_
   refine x_then_normal ?_
   refine c_seq ?_
   refine c_block ?_
   refine c_sr ?_
   refine t_mv rfl rfl ?_
   obtain ⟨x349, h350, hm⟩ := bindS hm
   obtain ⟨j351, hj352, hx353⟩ := idx_some h350
   obtain ⟨cs354, hr355, hcs356, hA357, hlt358⟩ := FZ.get (sz := 2) rfl (by decide) (h13.le hle344) hx353
   obtain ⟨_, _, rfl, rfl, rfl⟩ := hr355
   refine t_st rfl (st_index_old j351 rfl rfl hj352 hlt358 hA357 sl25) ?_
   refine t_st rfl (st_loadN_old (vs := [.int .i64 (x349.Section), .int .i64 (x349.End)]) 2 rfl agg96 hA357 rfl (fun j u hu => hcs356 j u hu)) ?_
   refine t_do rfl (u_alloc [.int .i64 0, .int .i64 0] zero96 rfl) ?_
   rintro _ _ ⟨g359, rfl, rfl⟩
   refine t_as rfl rfl ?_
   refine t_do rfl (u_storeN (vs := [_, _]) 0 2 rfl rfl rfl siz96 rfl (mem_c rfl (mem_c rfl mem_n)) rfl (by simp)) ?_
   rintro _ _ rfl
   refine t_ne ?_
   refine c_sr ?_
   refine t_st rfl (st_field rfl fld96_0) ?_
   refine t_st rfl (st_load 0 rfl one3 rfl rfl) ?_
   refine t_st rfl (st_field rfl fld96_1) ?_
   refine t_st rfl (st_load 0 rfl one3 rfl rfl) ?_
   refine t_st rfl (st_build (v := .agg #[.int .i64 (x349.Section), .int .i64 (x349.End)]) [(0, .int .i64 (x349.Section)), (1, .int .i64 (x349.End))] rfl (fun _ => by kernel_rfl)) ?_
   refine t_do rfl (u_alloc [.int .i64 0, .int .i64 0] zero109 rfl) ?_
   rintro _ _ ⟨g360, rfl, rfl⟩
   refine t_do rfl (u_storeN (vs := [_, _]) 0 2 rfl rfl rfl siz109 rfl (mem_c rfl (mem_c rfl mem_n)) rfl (by simp)) ?_
   rintro _ _ rfl
   refine t_ne ?_
   refine c_seq ?_
   refine c_sr ?_
   refine t_st rfl (st_loadD (vs := [_, _, _, _, _]) 2 5 rfl agg28 rfl rfl rfl) ?_
   refine t_st rfl (st_loadD (vs := [_, _]) 0 2 rfl agg109 rfl rfl rfl) ?_
   obtain ⟨x361, hcl362, hm⟩ := bindS hm
   refine t_do rfl (u_callW0 _ call67 rfl (fun w ho => cLineHas _ [] s1 (⟨x349.Section, x349.End⟩ : LineEnd) A2 c3 A5 c6 A8 c9 A11 c12 A14 c15 ((h4.le hle344).old ho) ((h7.le hle344).old ho) ((h10.le hle344).old ho) ((h13.le hle344).old ho) ((h16.le hle344).old ho) x361 hcl362) (fun _ _ _ h => h.2.symm)) ?_
   rintro _ _ ⟨⟨_, rfl, _⟩, rfl⟩
   refine t_st rfl (st_not rfl) ?_
   refine t_ne ?_
   refine c_cond _ rfl (fun hc363 => ?_) (fun hc363 => ?_)
   ·
    rw [if_neg (fun hh => Bool.noConfusion (hh.symm.trans (notT hc363)))] at hm
    refine c_sr ?_
    refine t_as rfl rfl ?_
    refine t_ne ?_
    refine c_ret ?_
    refine x_then_ret ?_
    refine x_block_ret ?_
    refine x_then_ret ?_
    refine x_then_ret ?_
    refine x_block_ret ?_
    refine x_then_ret ?_
    have hq364 := houtL238 _ (Option.some.inj hm).symm
    rw [hq364] at hk348
    have hm := elimR hk348
    obtain rfl := some1 hm
    exact retM (rs := [.tmp 2]) [.int .i64 (3)] hle344 (by decide) rfl ⟨rfl, trivial⟩ rfl (.cons _ (.cons _ (.cons _ (.refl _)))) ⟨rfl, rfl⟩
   ·
    rw [if_pos (notF hc363)] at hm
    refine c_skip ?_
    refine x_then_normal ?_
    refine c_seq ?_
    refine c_sr ?_
    refine t_st rfl (st_loadD (vs := [_, _, _, _, _]) 2 5 rfl agg28 rfl rfl rfl) ?_
    refine t_st rfl (st_loadD (vs := [_, _]) 0 2 rfl agg109 rfl rfl rfl) ?_
    obtain ⟨⟨x365, x366, x367⟩, hcl368, hm⟩ := bindS hm
    have hm := (unc3E hm)
    refine t_callG _ rfl call58 rfl (cLineJoined _ _ s1 (⟨x349.Section, x349.End⟩ : LineEnd) A2 c3 A5 c6 A8 c9 A11 c12 A14 c15 (h4.le hle344) (h7.le hle344) (h10.le hle344) (h13.le hle344) (h16.le hle344) x365 x366 x367 hcl368) ?_
    rintro _ b369 _ hle370 ⟨rfl, rfl⟩
    refine t_mv rfl rfl ?_
    refine t_st rfl (st_extract rfl rfl) ?_
    refine t_st rfl (st_extract rfl rfl) ?_
    refine t_do rfl (u_alloc [.int .i64 0, .int .i64 0] zero109 rfl) ?_
    rintro _ _ ⟨g371, rfl, rfl⟩
    refine t_do rfl (u_storeN (vs := [_, _]) 0 2 rfl rfl rfl siz109 rfl (mem_c rfl (mem_c rfl mem_n)) rfl (by simp)) ?_
    rintro _ _ rfl
    refine t_as rfl rfl ?_
    refine t_ne ?_
    obtain ⟨x385, hj386, hk386⟩ := bindS hm
    refine c_join (fun b383 e' hp' => [(1, .pointer (some ⟨g237, 0, none⟩)), (3, .int .i64 ((k345 : Int))), (4, .pointer (some ⟨g359, 0, none⟩)), (10, .slice A11 (s1.Signals).length c12), (11, .int .i64 ((s1.Signals.length : Int))), (12, .int .i64 ((k345 : Int))), (43, .bool (x385))] = e' ∧ (g237, Cl 28 [.slice A2 (s1.Stations).length c3, .slice A5 (s1.Sections).length c6, .slice A8 (s1.Links).length c9, .slice A11 (s1.Signals).length c12, .slice A14 (s1.Gates).length c15]) :: (g359, Cl 96 [.int .i64 (x349.Section), .int .i64 (x349.End)]) :: R = hp' ∧ b369.Le b383) ?_ ?_
    ·
     have hm := hj386
     refine c_region ?_
     refine t_mv rfl rfl ?_
     rcases Bool.eq_false_or_eq_true x367 with hc387 | hc387
     ·
      rw [if_pos hc387] at hm
      refine t_resp 32 rfl (v' := .bool true) (by rw [hc387] <;> rfl) ?_
      refine t_st rfl (st_not_t rfl) ?_
      refine t_mv rfl rfl ?_
      refine t_yes 34 rfl rfl rfl ?_
      refine t_st rfl (st_field rfl fld28_1) ?_
      refine t_yes 34 rfl rfl rfl ?_
      refine t_st rfl (st_load 3 rfl one23 rfl rfl) ?_
      refine t_yes 34 rfl rfl rfl ?_
      refine t_st rfl (st_field rfl fld96_0) ?_
      refine t_yes 34 rfl rfl rfl ?_
      refine t_st rfl (st_load 2 rfl one3 rfl rfl) ?_
      refine t_yes 34 rfl rfl rfl ?_
      obtain ⟨x388, h389, hm⟩ := bindS hm
      obtain ⟨j390, hj391, hx392⟩ := idx_some h389
      obtain ⟨cs393, hr394, hcs395, hA396, hlt397⟩ := FZ.get (sz := 7) rfl (by decide) (h7.le (hle344.trans hle370)) hx392
      obtain ⟨_, _, rfl, rfl, ⟨_, _, rfl, rfl, ⟨_, _, rfl, rfl, ⟨_, _, rfl, rfl, ⟨_, _, rfl, rfl, ⟨_, _, rfl, rfl, rfl⟩⟩⟩⟩⟩⟩ := hr394
      refine t_st rfl (st_index_old j390 rfl rfl hj391 hlt397 hA396 sl23) ?_
      refine t_yes 34 rfl rfl rfl ?_
      refine t_st rfl (st_field_old rfl hA396 fld91_0) ?_
      refine t_yes 34 rfl rfl rfl ?_
      refine t_st rfl (st_load_old rfl one3 (hcs395 0 _ rfl)) ?_
      refine t_yes 34 rfl rfl rfl ?_
      refine t_st rfl (st_neq rfl rfl) ?_
      refine t_st rfl (st_pick_f rfl rfl) ?_
      refine t_nil ?_
      obtain rfl := some1 hm
      refine x_pullb 2 rfl ?_
      refine x_pullb 3 rfl ?_
      exact x_join (e' := [(1, .pointer (some ⟨g237, 0, none⟩)), (3, .int .i64 ((k345 : Int))), (4, .pointer (some ⟨g359, 0, none⟩)), (10, .slice A11 (s1.Signals).length c12), (11, .int .i64 ((s1.Signals.length : Int))), (12, .int .i64 ((k345 : Int))), (43, .bool (decide (x388.Kind ≠ 1)))]) ⟨rfl, rfl, rfl, rfl, rfl, rfl, rfl, trivial⟩ (.cons_cons _ (.cons_cons _ (.cons _ (.cons _ (.refl _))))) ⟨rfl, rfl, (Base.Le.refl _)⟩
     ·
      rw [if_neg (fun hh => Bool.noConfusion (hh.symm.trans hc387))] at hm
      refine t_resp 32 rfl (v' := .bool false) (by rw [hc387] <;> rfl) ?_
      refine t_st rfl (st_not_f rfl) ?_
      refine t_mv rfl rfl ?_
      refine t_no 34 rfl rfl rfl rfl rfl ?_
      refine t_no 34 rfl rfl rfl rfl rfl ?_
      refine t_no 34 rfl rfl rfl rfl rfl ?_
      refine t_no 34 rfl rfl rfl rfl rfl ?_
      refine t_no 34 rfl rfl rfl rfl rfl ?_
      refine t_no 34 rfl rfl rfl rfl rfl ?_
      refine t_no 34 rfl rfl rfl rfl rfl ?_
      refine t_no 34 rfl rfl rfl rfl rfl ?_
      refine t_st rfl (st_pick_t rfl rfl) ?_
      refine t_nil ?_
      obtain rfl := some1 hm
      refine x_pullb 2 rfl ?_
      refine x_pullb 3 rfl ?_
      exact x_join (e' := [(1, .pointer (some ⟨g237, 0, none⟩)), (3, .int .i64 ((k345 : Int))), (4, .pointer (some ⟨g359, 0, none⟩)), (10, .slice A11 (s1.Signals).length c12), (11, .int .i64 ((s1.Signals.length : Int))), (12, .int .i64 ((k345 : Int))), (43, .bool (true))]) ⟨rfl, rfl, rfl, rfl, rfl, rfl, rfl, trivial⟩ (.cons_cons _ (.cons_cons _ (.cons _ (.cons _ (.refl _))))) ⟨rfl, rfl, (Base.Le.refl _)⟩
    ·
     rintro b383 _ _ ⟨rfl, rfl, hle384⟩
     have hm := hk386
     refine c_cond _ rfl (fun hc398 => ?_) (fun hc398 => ?_)
     ·
      rw [if_pos hc398] at hm
      refine c_sr ?_
      refine t_as rfl rfl ?_
      refine t_ne ?_
      refine c_ret ?_
      refine x_then_ret ?_
      refine x_block_ret ?_
      refine x_then_ret ?_
      refine x_then_ret ?_
      refine x_block_ret ?_
      refine x_then_ret ?_
      have hq399 := houtL238 _ (Option.some.inj hm).symm
      rw [hq399] at hk348
      have hm := elimR hk348
      obtain rfl := some1 hm
      exact retM (rs := [.tmp 2]) [.int .i64 (1)] (hle344.trans (hle370.trans hle384)) (by decide) rfl ⟨rfl, trivial⟩ rfl (.cons _ (.cons _ (.refl _))) ⟨rfl, rfl⟩
     ·
      rw [if_neg (fun hh => Bool.noConfusion (hh.symm.trans hc398))] at hm
      refine c_skip ?_
      refine x_then_normal ?_
      refine c_sr ?_
      refine t_mv rfl rfl ?_
      refine t_st rfl (st_gtr rfl rfl) ?_
      refine t_ne ?_
      refine c_cond _ rfl (fun hc400 => ?_) (fun hc400 => ?_)
      ·
       rw [if_pos (of_decide_eq_true hc400)] at hm
       refine c_sr ?_
       refine t_st rfl (st_field rfl fld28_3) ?_
       refine t_st rfl (st_load 0 rfl one25 rfl rfl) ?_
       refine t_mv rfl rfl ?_
       obtain ⟨_, h401, hm⟩ := bindS hm
       have h401 := (chk_some h401).2
       refine t_st rfl (st_sub rfl rfl h401) ?_
       obtain ⟨x402, h403, hm⟩ := bindS hm
       obtain ⟨j404, hj405, hx406⟩ := idx_some h403
       obtain ⟨cs407, hr408, hcs409, hA410, hlt411⟩ := FZ.get (sz := 2) rfl (by decide) (h13.le (hle344.trans (hle370.trans hle384))) hx406
       obtain ⟨_, _, rfl, rfl, rfl⟩ := hr408
       refine t_st rfl (st_index_old j404 rfl rfl hj405 hlt411 hA410 sl25) ?_
       refine t_st rfl (st_loadN_old (vs := [.int .i64 (x402.Section), .int .i64 (x402.End)]) 2 rfl agg96 hA410 rfl (fun j u hu => hcs409 j u hu)) ?_
       refine t_do rfl (u_alloc [.int .i64 0, .int .i64 0] zero96 rfl) ?_
       rintro _ _ ⟨g412, rfl, rfl⟩
       refine t_do rfl (u_storeN (vs := [_, _]) 0 2 rfl rfl rfl siz96 rfl (mem_c rfl (mem_c rfl mem_n)) rfl (by simp)) ?_
       rintro _ _ rfl
       refine t_ne ?_
       obtain ⟨x433, hj434, hk434⟩ := bindS hm
       refine c_join (fun b431 e' hp' => [(1, .pointer (some ⟨g237, 0, none⟩)), (10, .slice A11 (s1.Signals).length c12), (11, .int .i64 ((s1.Signals.length : Int))), (12, .int .i64 ((k345 : Int))), (64, .bool (x433))] = e' ∧ (g237, Cl 28 [.slice A2 (s1.Stations).length c3, .slice A5 (s1.Sections).length c6, .slice A8 (s1.Links).length c9, .slice A11 (s1.Signals).length c12, .slice A14 (s1.Gates).length c15]) :: R = hp' ∧ b383.Le b431) ?_ ?_
       ·
        have hm := hj434
        obtain ⟨x444, hcl445, hm⟩ := bindS hm
        obtain ⟨x446, hcl447, hm⟩ := bindS hm
        obtain ⟨x451, hcl452, hm⟩ := bindS hm
        refine D_drawI mixed (.refl _) ?_
        refine E_st 0 rfl (st_field rfl fld96_0) ?_
        refine E_st 1 rfl (st_load 0 rfl one3 rfl rfl) ?_
        refine E_st 2 rfl (st_field rfl fld96_0) ?_
        refine E_st 3 rfl (st_load 2 rfl one3 rfl rfl) ?_
        refine E_st 5 rfl (st_field rfl fld96_1) ?_
        refine E_st 6 rfl (st_load 0 rfl one3 rfl rfl) ?_
        refine E_st 7 rfl (st_field rfl fld96_1) ?_
        refine E_st 8 rfl (st_load 2 rfl one3 rfl rfl) ?_
        refine E_out ?_
        refine D_all [4] (by kernel_rfl) rfl ?_
        refine R_do (Base.Le.refl _) rfl rfl (u_callW0 _ call27 rfl (fun w ho => cCmpCompare _ [] x402.Section x349.Section x444 hcl445) (fun _ _ _ h => h.2.symm)) ?_ ?_
        ·
         rintro _ _ ⟨⟨_, rfl, _⟩, rfl⟩
         refine ⟨.inr (.refl _), ?_⟩
         refine D_all [9] (by kernel_rfl) rfl ?_
         refine R_do (Base.Le.refl _) rfl rfl (u_callW0 _ call27 rfl (fun w ho => cCmpCompare _ [] x402.End x349.End x446 hcl447) (fun _ _ _ h => h.2.symm)) ?_ ?_
         ·
          rintro _ _ ⟨⟨_, rfl, _⟩, rfl⟩
          refine ⟨.inr (.refl _), ?_⟩
          refine D_all [10] (by kernel_rfl) rfl ?_
          refine R_do (Base.Le.refl _) rfl rfl (u_bslice (el := 3) [(0, .int .i64 (x444)), (1, .int .i64 (x446))] [.int .i64 (x444), .int .i64 (x446)] rfl (fun _ => by kernel_rfl)) ?_ ?_
          ·
           rintro _ _ ⟨g448, rfl, rfl⟩
           refine ⟨.inr (.cons _ (.refl _)), ?_⟩
           refine d_seg 0 [_, _, _] R rfl rfl ?_
           have h450 : OS 3 (OT.fr (RT.int .i64)) b383.w (.slice (some ⟨g448, 0, none⟩) 2 2) [x444, x446] [(g448, Cl 3 [.int .i64 (x444), .int .i64 (x446)])] := OS.lit [[.int .i64 (x444)], [.int .i64 (x446)]] rfl ⟨rfl, ⟨rfl, trivial⟩⟩ rfl (by decide)
           refine D_all [11] (by kernel_rfl) rfl ?_
           refine R_do (Base.Le.refl _) rfl rfl (u_callW0 _ call68 rfl (fun w ho => cCmpOr _ [] [x444, x446] (some ⟨g448, 0, none⟩) 2 (OS.now (o := (OT.fr (RT.int .i64))) (l := [x444, x446]) (hs := [(g448, Cl 3 [.int .i64 (x444), .int .i64 (x446)])]) h450 ho (.cons _ (.cons _ (.cons _ (List.sublist_append_left _ _))))) x451 hcl452) (fun _ _ _ h => h.2.symm)) ?_ ?_
           ·
            rintro _ _ ⟨⟨_, rfl, _⟩, rfl⟩
            refine ⟨.inr (.cons_cons _ (.cons_cons _ (.cons_cons _ (sub_skip [(g448, Cl 3 [.int .i64 (x444), .int .i64 (x446)])] (.refl _))))), ?_⟩
            refine E_in (.cons_cons _ (.cons_cons _ (.cons_cons _ (sub_skip [(g448, Cl 3 [.int .i64 (x444), .int .i64 (x446)])] (.refl _))))) ?_
            refine E_st 12 rfl (st_geq rfl rfl) ?_
            refine E_out ?_
            refine D_done (by kernel_rfl) ?_
            obtain rfl := some1 hm
            refine x_pullb 1 rfl ?_
            exact x_join (e' := [(1, .pointer (some ⟨g237, 0, none⟩)), (10, .slice A11 (s1.Signals).length c12), (11, .int .i64 ((s1.Signals.length : Int))), (12, .int .i64 ((k345 : Int))), (64, .bool (decide (0 ≤ x451)))]) ⟨rfl, rfl, rfl, rfl, rfl, trivial⟩ (.cons_cons _ (.cons _ (.cons _ (sub_skip [(g448, Cl 3 [.int .i64 (x444), .int .i64 (x446)])] (.refl _))))) ⟨rfl, rfl, (Base.Le.refl _)⟩
           exact R_nil
          exact R_nil
         exact R_nil
        exact R_nil
       ·
        rintro b431 _ _ ⟨rfl, rfl, hle432⟩
        have hm := hk434
        refine c_cond _ rfl (fun hc453 => ?_) (fun hc453 => ?_)
        ·
         rw [if_pos hc453] at hm
         refine c_sr ?_
         refine t_as rfl rfl ?_
         refine t_ne ?_
         refine c_ret ?_
         refine x_block_ret ?_
         refine x_then_ret ?_
         refine x_then_ret ?_
         refine x_block_ret ?_
         refine x_then_ret ?_
         have hq454 := houtL238 _ (Option.some.inj hm).symm
         rw [hq454] at hk348
         have hm := elimR hk348
         obtain rfl := some1 hm
         exact retM (rs := [.tmp 2]) [.int .i64 (5)] (hle344.trans (hle370.trans (hle384.trans hle432))) (by decide) rfl ⟨rfl, trivial⟩ rfl (.cons _ (.refl _)) ⟨rfl, rfl⟩
        ·
         rw [if_neg (fun hh => Bool.noConfusion (hh.symm.trans hc453))] at hm
         refine c_skip ?_
         refine x_block_normal ?_
         refine x_then_normal ?_
         refine c_region ?_
         refine t_st rfl (st_add rfl rfl (by omega)) ?_
         refine t_mv rfl rfl ?_
         refine t_nil ?_
         exact x_againM () (Option.some.inj hm).symm (e' := [(1, .pointer (some ⟨g237, 0, none⟩)), (10, .slice A11 (s1.Signals).length c12), (11, .int .i64 ((s1.Signals.length : Int))), (12, .int .i64 ((k345 : Int) + 1))]) ⟨rfl, rfl, rfl, rfl, trivial⟩ (.refl _) ⟨rfl, rfl, ((hle344.trans (hle370.trans (hle384.trans hle432))))⟩
      ·
       rw [if_neg (of_decide_eq_false hc400)] at hm
       refine c_skip ?_
       refine x_block_normal ?_
       refine x_then_normal ?_
       refine c_region ?_
       refine t_st rfl (st_add rfl rfl (by omega)) ?_
       refine t_mv rfl rfl ?_
       refine t_nil ?_
       exact x_againM () (Option.some.inj hm).symm (e' := [(1, .pointer (some ⟨g237, 0, none⟩)), (10, .slice A11 (s1.Signals).length c12), (11, .int .i64 ((s1.Signals.length : Int))), (12, .int .i64 ((k345 : Int) + 1))]) ⟨rfl, rfl, rfl, rfl, trivial⟩ (.cons_cons _ (.cons _ (.refl _))) ⟨rfl, rfl, ((hle344.trans (hle370.trans hle384)))⟩
  ·
   rintro _ b343 _ _ ⟨rfl, rfl, hle344⟩ hq455
   rw [hq455] at hk348
   have hm := elimL hk348
   refine c_sr ?_
   refine t_st rfl (st_lss_f rfl rfl (by omega)) ?_
   refine t_ne ?_
   refine c_seq ?_
   refine c_cond_f rfl ?_
   refine c_exit ?_
   refine x_then_exit ?_
   refine x_then_exit ?_
   refine x_block_out ?_
   refine x_then_normal ?_
   refine c_sr ?_
   refine t_as rfl rfl ?_
   refine t_ne ?_
   refine c_ret ?_
   obtain rfl := some1 hm
   exact retM (rs := [.tmp 2]) [.int .i64 (0)] hle344 (by decide) rfl ⟨rfl, trivial⟩ rfl (.cons _ (.refl _)) ⟨rfl, rfl⟩

set_option maxRecDepth 20000 in
theorem cLineCheckGates (b : Base) (R : Hp) (s1 : ApiNet) (A2 : Option Addr) (c3 : Nat) (A5 : Option Addr) (c6 : Nat) (A8 : Option Addr) (c9 : Nat) (A11 : Option Addr) (c12 : Nat) (A14 : Option Addr) (c15 : Nat) (h4 : FZ RT.str b.w A2 c3 s1.Stations) (h7 : FZ rApiSection b.w A5 c6 s1.Sections) (h10 : FZ rApiLink b.w A8 c9 s1.Links) (h13 : FZ rApiSignal b.w A11 c12 s1.Signals) (h16 : FZ rApiGate b.w A14 c15 s1.Gates) (x195 : Int) (hm : mLineCheckGates s1 = some x195) :
    CallsG Tryz.prog 46 [.agg #[.slice A2 (s1.Stations).length c3, .slice A5 (s1.Sections).length c6, .slice A8 (s1.Links).length c9, .slice A11 (s1.Signals).length c12, .slice A14 (s1.Gates).length c15]] b (R) (fun v b' hp' => .int .i64 (x195) = v ∧ R = hp') := by
  refine fn_enterG 52 Tryz.func46 rfl Tryz.ntmps46 rfl ?_
  unfold mLineCheckGates at hm
  refine c_sr ?_
  refine t_do rfl (u_box _ rfl rfl) ?_
  rintro _ _ ⟨g196, rfl, rfl⟩
  refine t_as rfl rfl ?_
  refine t_ne ?_
  refine c_seq ?_
  refine c_sr ?_
  refine t_st rfl (st_field rfl fld28_4) ?_
  refine t_st rfl (st_load 0 rfl one26 rfl rfl) ?_
  refine t_st rfl (st_len rfl sl26) ?_
  refine t_mv rfl rfl ?_
  refine t_ne ?_
  refine c_block ?_
  have hb198 : s1.Gates.length ≤ 9223372036854775807 := (FZ.bd h16)
  obtain ⟨t284, hl285, hk286⟩ := bindS hm
  refine c_forM (fun k283 => fun _ => fun b281 e' hp' => [(1, .pointer (some ⟨g196, 0, none⟩)), (6, .slice A14 (s1.Gates).length c15), (7, .int .i64 ((s1.Gates.length : Int))), (8, .int .i64 ((k283 : Int)))] = e' ∧ (g196, Cl 28 [.slice A2 (s1.Stations).length c3, .slice A5 (s1.Sections).length c6, .slice A8 (s1.Links).length c9, .slice A11 (s1.Signals).length c12, .slice A14 (s1.Gates).length c15]) :: R = hp' ∧ b.Le b281) hl285 (e' := [(1, .pointer (some ⟨g196, 0, none⟩)), (6, .slice A14 (s1.Gates).length c15), (7, .int .i64 ((s1.Gates.length : Int))), (8, .int .i64 0)]) ⟨rfl, rfl, rfl, rfl, trivial⟩ (.refl _) ⟨rfl, rfl, (Base.Le.refl _)⟩ ?_ ?_
  ·
   rintro k283 _ b281 _ _ oL197 hknL197 ⟨rfl, rfl, hle282⟩ hstepL197 houtL197
   unfold mLineCheckGates_L197 at hstepL197
   have hm := hstepL197
   refine c_sr ?_
   refine t_st rfl (st_lss_t rfl rfl (by omega)) ?_
   refine t_ne ?_
   refine c_seq ?_
   refine c_cond_t rfl ?_
   refine c_skip ?_
   refine x_then_normal ?_
   refine c_seq ?_
   refine c_block ?_
   refine c_sr ?_
   refine t_mv rfl rfl ?_
   obtain ⟨x287, h288, hm⟩ := bindS hm
   obtain ⟨j289, hj290, hx291⟩ := idx_some h288
   obtain ⟨cs292, hr293, hcs294, hA295, hlt296⟩ := FZ.get (sz := 2) rfl (by decide) (h16.le hle282) hx291
   obtain ⟨_, _, rfl, rfl, rfl⟩ := hr293
   refine t_st rfl (st_index_old j289 rfl rfl hj290 hlt296 hA295 sl26) ?_
   refine t_st rfl (st_loadN_old (vs := [.int .i64 (x287.Section), .int .i64 (x287.Close)]) 2 rfl agg120 hA295 rfl (fun j u hu => hcs294 j u hu)) ?_
   refine t_do rfl (u_alloc [.int .i64 0, .int .i64 0] zero120 rfl) ?_
   rintro _ _ ⟨g297, rfl, rfl⟩
   refine t_as rfl rfl ?_
   refine t_do rfl (u_storeN (vs := [_, _]) 0 2 rfl rfl rfl siz120 rfl (mem_c rfl (mem_c rfl mem_n)) rfl (by simp)) ?_
   rintro _ _ rfl
   refine t_ne ?_
   refine c_block ?_
   refine c_sr ?_
   refine t_st rfl (st_field rfl fld120_0) ?_
   refine t_st rfl (st_load 0 rfl one3 rfl rfl) ?_
   refine t_st rfl (st_field rfl fld28_1) ?_
   refine t_st rfl (st_load 1 rfl one23 rfl rfl) ?_
   refine t_st rfl (st_len rfl sl23) ?_
   obtain ⟨_, h298, hm⟩ := bindS hm
   have h298 := (chk_some h298).2
   refine t_st rfl (st_sub rfl rfl h298) ?_
   obtain ⟨x299, hcl300, hm⟩ := bindS hm
   refine t_do rfl (u_callW0 _ call19 rfl (fun w ho => cLineWithin _ [] x287.Section 0 ((s1.Sections.length : Int) - 1) x299 hcl300) (fun _ _ _ h => h.2.symm)) ?_
   rintro _ _ ⟨⟨_, rfl, _⟩, rfl⟩
   refine t_st rfl (st_not rfl) ?_
   refine t_as rfl rfl ?_
   refine t_ne ?_
   refine c_cond _ rfl (fun hc301 => ?_) (fun hc301 => ?_)
   ·
    rw [if_neg (fun hh => Bool.noConfusion (hh.symm.trans (notT hc301)))] at hm
    refine c_sr ?_
    refine t_as rfl rfl ?_
    refine t_ne ?_
    refine c_ret ?_
    refine x_block_ret ?_
    refine x_block_ret ?_
    refine x_then_ret ?_
    refine x_then_ret ?_
    refine x_block_ret ?_
    refine x_then_ret ?_
    have hq302 := houtL197 _ (Option.some.inj hm).symm
    rw [hq302] at hk286
    have hm := elimR hk286
    obtain rfl := some1 hm
    exact retM (rs := [.tmp 2]) [.int .i64 (3)] hle282 (by decide) rfl ⟨rfl, trivial⟩ rfl (.cons _ (.cons _ (.refl _))) ⟨rfl, rfl⟩
   ·
    rw [if_pos (notF hc301)] at hm
    refine c_sr ?_
    refine t_st rfl (st_field rfl fld28_1) ?_
    refine t_st rfl (st_load 1 rfl one23 rfl rfl) ?_
    refine t_st rfl (st_field rfl fld120_0) ?_
    refine t_st rfl (st_load 0 rfl one3 rfl rfl) ?_
    obtain ⟨x303, h304, hm⟩ := bindS hm
    obtain ⟨j305, hj306, hx307⟩ := idx_some h304
    obtain ⟨cs308, hr309, hcs310, hA311, hlt312⟩ := FZ.get (sz := 7) rfl (by decide) (h7.le hle282) hx307
    obtain ⟨_, _, rfl, rfl, ⟨_, _, rfl, rfl, ⟨_, _, rfl, rfl, ⟨_, _, rfl, rfl, ⟨_, _, rfl, rfl, ⟨_, _, rfl, rfl, rfl⟩⟩⟩⟩⟩⟩ := hr309
    refine t_st rfl (st_index_old j305 rfl rfl hj306 hlt312 hA311 sl23) ?_
    refine t_st rfl (st_field_old rfl hA311 fld91_0) ?_
    refine t_st rfl (st_load_old rfl one3 (hcs310 0 _ rfl)) ?_
    refine t_st rfl (st_neq rfl rfl) ?_
    refine t_as rfl rfl ?_
    refine t_ne ?_
    refine c_cond _ rfl (fun hc313 => ?_) (fun hc313 => ?_)
    ·
     rw [if_pos (of_decide_eq_true hc313)] at hm
     refine c_sr ?_
     refine t_as rfl rfl ?_
     refine t_ne ?_
     refine c_ret ?_
     refine x_block_ret ?_
     refine x_block_ret ?_
     refine x_then_ret ?_
     refine x_then_ret ?_
     refine x_block_ret ?_
     refine x_then_ret ?_
     have hq314 := houtL197 _ (Option.some.inj hm).symm
     rw [hq314] at hk286
     have hm := elimR hk286
     obtain rfl := some1 hm
     exact retM (rs := [.tmp 2]) [.int .i64 (1)] hle282 (by decide) rfl ⟨rfl, trivial⟩ rfl (.cons _ (.cons _ (.refl _))) ⟨rfl, rfl⟩
    ·
     rw [if_neg (of_decide_eq_false hc313)] at hm
     refine c_sr ?_
     refine t_st rfl (st_field rfl fld120_1) ?_
     refine t_st rfl (st_load 0 rfl one3 rfl rfl) ?_
     obtain ⟨x315, hcl316, hm⟩ := bindS hm
     refine t_do rfl (u_callW0 _ call19 rfl (fun w ho => cLineWithin _ [] x287.Close 1 12 x315 hcl316) (fun _ _ _ h => h.2.symm)) ?_
     rintro _ _ ⟨⟨_, rfl, _⟩, rfl⟩
     refine t_st rfl (st_not rfl) ?_
     refine t_as rfl rfl ?_
     refine t_ne ?_
     refine c_cond _ rfl (fun hc317 => ?_) (fun hc317 => ?_)
     ·
      rw [if_neg (fun hh => Bool.noConfusion (hh.symm.trans (notT hc317)))] at hm
      refine c_sr ?_
      refine t_as rfl rfl ?_
      refine t_ne ?_
      refine c_ret ?_
      refine x_block_ret ?_
      refine x_block_ret ?_
      refine x_then_ret ?_
      refine x_then_ret ?_
      refine x_block_ret ?_
      refine x_then_ret ?_
      have hq318 := houtL197 _ (Option.some.inj hm).symm
      rw [hq318] at hk286
      have hm := elimR hk286
      obtain rfl := some1 hm
      exact retM (rs := [.tmp 2]) [.int .i64 (2)] hle282 (by decide) rfl ⟨rfl, trivial⟩ rfl (.cons _ (.cons _ (.refl _))) ⟨rfl, rfl⟩
     ·
      rw [if_pos (notF hc317)] at hm
      obtain ⟨x345, hj346, hk346⟩ := bindS hm
      refine c_join (fun b343 e' hp' => [(1, .pointer (some ⟨g196, 0, none⟩)), (6, .slice A14 (s1.Gates).length c15), (7, .int .i64 ((s1.Gates.length : Int))), (8, .int .i64 ((k283 : Int))), (36, .bool (x345))] = e' ∧ (g196, Cl 28 [.slice A2 (s1.Stations).length c3, .slice A5 (s1.Sections).length c6, .slice A8 (s1.Links).length c9, .slice A11 (s1.Signals).length c12, .slice A14 (s1.Gates).length c15]) :: R = hp' ∧ b281.Le b343) ?_ ?_
      ·
       have hm := hj346
       by_cases hc359 : 0 < (k283 : Int)
       ·
        rw [if_pos hc359] at hm
        obtain ⟨_, h360, hm⟩ := bindS hm
        obtain ⟨x361, h362, hm⟩ := bindS hm
        refine D_drawI mixed (.refl _) ?_
        refine E_st 0 rfl (st_move rfl) ?_
        refine E_st 1 rfl (st_gtr_t rfl rfl hc359) ?_
        refine E_st 2 rfl (st_move rfl) ?_
        refine E_yes 3 39 rfl (st_field rfl fld120_0) ?_
        refine E_yes 4 39 rfl (st_load 0 rfl one3 rfl rfl) ?_
        refine E_yes 5 39 rfl (st_field rfl fld28_4) ?_
        refine E_yes 6 39 rfl (st_load 1 rfl one26 rfl rfl) ?_
        refine E_yes 7 39 rfl (st_move rfl) ?_
        have h360 := (chk_some h360).2
        refine E_yes 8 39 rfl (st_sub rfl rfl h360) ?_
        obtain ⟨j363, hj364, hx365⟩ := idx_some h362
        obtain ⟨cs366, hr367, hcs368, hA369, hlt370⟩ := FZ.get (sz := 2) rfl (by decide) (h16.le hle282) hx365
        obtain ⟨_, _, rfl, rfl, rfl⟩ := hr367
        refine E_yes 9 39 rfl (st_index_old j363 rfl rfl hj364 hlt370 hA369 sl26) ?_
        refine E_yes 10 39 rfl (st_field_old rfl hA369 fld120_0) ?_
        refine E_yes 11 39 rfl (st_load_old rfl one3 (hcs368 0 _ rfl)) ?_
        refine E_yes 12 39 rfl (st_leq rfl rfl) ?_
        refine E_st 13 rfl (st_pick_t rfl rfl) ?_
        refine E_st 14 rfl (st_assign rfl) ?_
        refine E_out ?_
        refine D_done (by kernel_rfl) ?_
        obtain rfl := some1 hm
        refine x_pullb 1 rfl ?_
        exact x_join (e' := [(1, .pointer (some ⟨g196, 0, none⟩)), (6, .slice A14 (s1.Gates).length c15), (7, .int .i64 ((s1.Gates.length : Int))), (8, .int .i64 ((k283 : Int))), (36, .bool (decide (x287.Section ≤ x361.Section)))]) ⟨rfl, rfl, rfl, rfl, rfl, trivial⟩ (.cons_cons _ (.cons _ (.refl _))) ⟨rfl, rfl, (Base.Le.refl _)⟩
       ·
        rw [if_neg hc359] at hm
        refine D_drawI mixed (.refl _) ?_
        refine E_st 0 rfl (st_move rfl) ?_
        refine E_st 1 rfl (st_gtr_f rfl rfl hc359) ?_
        refine E_st 2 rfl (st_move rfl) ?_
        refine E_no 3 39 rfl rfl rfl ?_
        refine E_no 4 39 rfl rfl rfl ?_
        refine E_no 5 39 rfl rfl rfl ?_
        refine E_no 6 39 rfl rfl rfl ?_
        refine E_no 7 39 rfl rfl rfl ?_
        refine E_no 8 39 rfl rfl rfl ?_
        refine E_no 9 39 rfl rfl rfl ?_
        refine E_no 10 39 rfl rfl rfl ?_
        refine E_no 11 39 rfl rfl rfl ?_
        refine E_no 12 39 rfl rfl rfl ?_
        refine E_st 13 rfl (st_pick_f rfl rfl) ?_
        refine E_st 14 rfl (st_assign rfl) ?_
        refine E_out ?_
        refine D_done (by kernel_rfl) ?_
        obtain rfl := some1 hm
        refine x_pullb 1 rfl ?_
        exact x_join (e' := [(1, .pointer (some ⟨g196, 0, none⟩)), (6, .slice A14 (s1.Gates).length c15), (7, .int .i64 ((s1.Gates.length : Int))), (8, .int .i64 ((k283 : Int))), (36, .bool (false))]) ⟨rfl, rfl, rfl, rfl, rfl, trivial⟩ (.cons_cons _ (.cons _ (.refl _))) ⟨rfl, rfl, (Base.Le.refl _)⟩
      ·
       rintro b343 _ _ ⟨rfl, rfl, hle344⟩
       have hm := hk346
       refine c_cond _ rfl (fun hc371 => ?_) (fun hc371 => ?_)
       ·
        rw [if_pos hc371] at hm
        refine c_sr ?_
        refine t_as rfl rfl ?_
        refine t_ne ?_
        refine c_ret ?_
        refine x_block_ret ?_
        refine x_block_ret ?_
        refine x_then_ret ?_
        refine x_then_ret ?_
        refine x_block_ret ?_
        refine x_then_ret ?_
        have hq372 := houtL197 _ (Option.some.inj hm).symm
        rw [hq372] at hk286
        have hm := elimR hk286
        obtain rfl := some1 hm
        exact retM (rs := [.tmp 2]) [.int .i64 (5)] (hle282.trans hle344) (by decide) rfl ⟨rfl, trivial⟩ rfl (.cons _ (.refl _)) ⟨rfl, rfl⟩
       ·
        rw [if_neg (fun hh => Bool.noConfusion (hh.symm.trans hc371))] at hm
        refine c_skip ?_
        refine x_block_normal ?_
        refine x_block_normal ?_
        refine x_then_normal ?_
        refine c_region ?_
        refine t_st rfl (st_add rfl rfl (by omega)) ?_
        refine t_mv rfl rfl ?_
        refine t_nil ?_
        exact x_againM () (Option.some.inj hm).symm (e' := [(1, .pointer (some ⟨g196, 0, none⟩)), (6, .slice A14 (s1.Gates).length c15), (7, .int .i64 ((s1.Gates.length : Int))), (8, .int .i64 ((k283 : Int) + 1))]) ⟨rfl, rfl, rfl, rfl, trivial⟩ (.refl _) ⟨rfl, rfl, ((hle282.trans hle344))⟩
  ·
   rintro _ b281 _ _ ⟨rfl, rfl, hle282⟩ hq373
   rw [hq373] at hk286
   have hm := elimL hk286
   refine c_sr ?_
   refine t_st rfl (st_lss_f rfl rfl (by omega)) ?_
   refine t_ne ?_
   refine c_seq ?_
   refine c_cond_f rfl ?_
   refine c_exit ?_
   refine x_then_exit ?_
   refine x_then_exit ?_
   refine x_block_out ?_
   refine x_then_normal ?_
   refine c_sr ?_
   refine t_as rfl rfl ?_
   refine t_ne ?_
   refine c_ret ?_
   obtain rfl := some1 hm
   exact retM (rs := [.tmp 2]) [.int .i64 (0)] hle282 (by decide) rfl ⟨rfl, trivial⟩ rfl (.cons _ (.refl _)) ⟨rfl, rfl⟩

set_option maxRecDepth 20000 in
theorem cLineCheck (b : Base) (R : Hp) (s1 : ApiNet) (A2 : Option Addr) (c3 : Nat) (A5 : Option Addr) (c6 : Nat) (A8 : Option Addr) (c9 : Nat) (A11 : Option Addr) (c12 : Nat) (A14 : Option Addr) (c15 : Nat) (h4 : FZ RT.str b.w A2 c3 s1.Stations) (h7 : FZ rApiSection b.w A5 c6 s1.Sections) (h10 : FZ rApiLink b.w A8 c9 s1.Links) (h13 : FZ rApiSignal b.w A11 c12 s1.Signals) (h16 : FZ rApiGate b.w A14 c15 s1.Gates) (x178 : Int) (hm : mLineCheck s1 = some x178) :
    CallsG Tryz.prog 25 [.agg #[.slice A2 (s1.Stations).length c3, .slice A5 (s1.Sections).length c6, .slice A8 (s1.Links).length c9, .slice A11 (s1.Signals).length c12, .slice A14 (s1.Gates).length c15]] b (R) (fun v b' hp' => .int .i64 (x178) = v ∧ R = hp') := by
  refine fn_enterG 92 Tryz.func25 rfl Tryz.ntmps25 rfl ?_
  unfold mLineCheck at hm
  refine c_sr ?_
  refine t_do rfl (u_box _ rfl rfl) ?_
  rintro _ _ ⟨g179, rfl, rfl⟩
  refine t_as rfl rfl ?_
  refine t_ne ?_
  refine c_seq ?_
  refine c_block ?_
  refine c_sr ?_
  refine t_st rfl (st_field rfl fld28_1) ?_
  refine t_st rfl (st_load 0 rfl one23 rfl rfl) ?_
  refine t_st rfl (st_len rfl sl23) ?_
  refine t_st rfl (st_eql rfl rfl) ?_
  refine t_as rfl rfl ?_
  refine t_ne ?_
  refine c_cond _ rfl (fun hc180 => ?_) (fun hc180 => ?_)
  ·
   rw [if_pos (of_decide_eq_true hc180)] at hm
   refine c_sr ?_
   refine t_as rfl rfl ?_
   refine t_ne ?_
   refine c_ret ?_
   refine x_block_ret ?_
   refine x_then_ret ?_
   obtain rfl := some1 hm
   exact retM (rs := [.tmp 2]) [.int .i64 (1)] (Base.Le.refl _) (by decide) rfl ⟨rfl, trivial⟩ rfl (.cons _ (.refl _)) ⟨rfl, rfl⟩
  ·
   rw [if_neg (of_decide_eq_false hc180)] at hm
   obtain ⟨x187, hj188, hk188⟩ := bindS hm
   refine c_join (fun b185 e' hp' => [(1, .pointer (some ⟨g179, 0, none⟩)), (16, .bool (x187))] = e' ∧ (g179, Cl 28 [.slice A2 (s1.Stations).length c3, .slice A5 (s1.Sections).length c6, .slice A8 (s1.Links).length c9, .slice A11 (s1.Signals).length c12, .slice A14 (s1.Gates).length c15]) :: R = hp' ∧ b.Le b185) ?_ ?_
   ·
    have hm := hj188
    refine c_region ?_
    refine t_st rfl (st_field rfl fld28_0) ?_
    refine t_st rfl (st_load 0 rfl one22 rfl rfl) ?_
    refine t_st rfl (st_len rfl sl22) ?_
    refine t_bool rfl (st_gtr rfl rfl) (fun hc189 => ?_) (fun hc189 => ?_)
    ·
     rw [if_pos hc189] at hm
     refine t_mv rfl rfl ?_
     refine t_no 21 rfl rfl rfl rfl rfl ?_
     refine t_no 21 rfl rfl rfl rfl rfl ?_
     refine t_no 21 rfl rfl rfl rfl rfl ?_
     refine t_no 21 rfl rfl rfl rfl rfl ?_
     refine t_st rfl (st_pick_t rfl rfl) ?_
     refine t_mv rfl rfl ?_
     refine t_no 27 rfl rfl rfl rfl rfl ?_
     refine t_no 27 rfl rfl rfl rfl rfl ?_
     refine t_no 27 rfl rfl rfl rfl rfl ?_
     refine t_no 27 rfl rfl rfl rfl rfl ?_
     refine t_st rfl (st_pick_t rfl rfl) ?_
     refine t_mv rfl rfl ?_
     refine t_no 33 rfl rfl rfl rfl rfl ?_
     refine t_no 33 rfl rfl rfl rfl rfl ?_
     refine t_no 33 rfl rfl rfl rfl rfl ?_
     refine t_no 33 rfl rfl rfl rfl rfl ?_
     refine t_st rfl (st_pick_t rfl rfl) ?_
     refine t_mv rfl rfl ?_
     refine t_no 39 rfl rfl rfl rfl rfl ?_
     refine t_no 39 rfl rfl rfl rfl rfl ?_
     refine t_no 39 rfl rfl rfl rfl rfl ?_
     refine t_no 39 rfl rfl rfl rfl rfl ?_
     refine t_st rfl (st_pick_t rfl rfl) ?_
     refine t_as rfl rfl ?_
     refine t_nil ?_
     obtain rfl := some1 hm
     exact x_join (e' := [(1, .pointer (some ⟨g179, 0, none⟩)), (16, .bool (true))]) ⟨rfl, rfl, trivial⟩ (.refl _) ⟨rfl, rfl, (Base.Le.refl _)⟩
    ·
     rw [if_neg hc189] at hm
     refine t_mv rfl rfl ?_
     refine t_yes 21 rfl rfl rfl ?_
     refine t_st rfl (st_field rfl fld28_1) ?_
     refine t_yes 21 rfl rfl rfl ?_
     refine t_st rfl (st_load 0 rfl one23 rfl rfl) ?_
     refine t_yes 21 rfl rfl rfl ?_
     refine t_st rfl (st_len rfl sl23) ?_
     refine t_yes 21 rfl rfl rfl ?_
     refine t_bool rfl (st_gtr rfl rfl) (fun hc190 => ?_) (fun hc190 => ?_)
     ·
      rw [if_pos hc190] at hm
      refine t_st rfl (st_pick_f rfl rfl) ?_
      refine t_mv rfl rfl ?_
      refine t_no 27 rfl rfl rfl rfl rfl ?_
      refine t_no 27 rfl rfl rfl rfl rfl ?_
      refine t_no 27 rfl rfl rfl rfl rfl ?_
      refine t_no 27 rfl rfl rfl rfl rfl ?_
      refine t_st rfl (st_pick_t rfl rfl) ?_
      refine t_mv rfl rfl ?_
      refine t_no 33 rfl rfl rfl rfl rfl ?_
      refine t_no 33 rfl rfl rfl rfl rfl ?_
      refine t_no 33 rfl rfl rfl rfl rfl ?_
      refine t_no 33 rfl rfl rfl rfl rfl ?_
      refine t_st rfl (st_pick_t rfl rfl) ?_
      refine t_mv rfl rfl ?_
      refine t_no 39 rfl rfl rfl rfl rfl ?_
      refine t_no 39 rfl rfl rfl rfl rfl ?_
      refine t_no 39 rfl rfl rfl rfl rfl ?_
      refine t_no 39 rfl rfl rfl rfl rfl ?_
      refine t_st rfl (st_pick_t rfl rfl) ?_
      refine t_as rfl rfl ?_
      refine t_nil ?_
      obtain rfl := some1 hm
      exact x_join (e' := [(1, .pointer (some ⟨g179, 0, none⟩)), (16, .bool (true))]) ⟨rfl, rfl, trivial⟩ (.refl _) ⟨rfl, rfl, (Base.Le.refl _)⟩
     ·
      rw [if_neg hc190] at hm
      refine t_st rfl (st_pick_f rfl rfl) ?_
      refine t_mv rfl rfl ?_
      refine t_yes 27 rfl rfl rfl ?_
      refine t_st rfl (st_field rfl fld28_2) ?_
      refine t_yes 27 rfl rfl rfl ?_
      refine t_st rfl (st_load 0 rfl one24 rfl rfl) ?_
      refine t_yes 27 rfl rfl rfl ?_
      refine t_st rfl (st_len rfl sl24) ?_
      refine t_yes 27 rfl rfl rfl ?_
      refine t_bool rfl (st_gtr rfl rfl) (fun hc191 => ?_) (fun hc191 => ?_)
      ·
       rw [if_pos hc191] at hm
       refine t_st rfl (st_pick_f rfl rfl) ?_
       refine t_mv rfl rfl ?_
       refine t_no 33 rfl rfl rfl rfl rfl ?_
       refine t_no 33 rfl rfl rfl rfl rfl ?_
       refine t_no 33 rfl rfl rfl rfl rfl ?_
       refine t_no 33 rfl rfl rfl rfl rfl ?_
       refine t_st rfl (st_pick_t rfl rfl) ?_
       refine t_mv rfl rfl ?_
       refine t_no 39 rfl rfl rfl rfl rfl ?_
       refine t_no 39 rfl rfl rfl rfl rfl ?_
       refine t_no 39 rfl rfl rfl rfl rfl ?_
       refine t_no 39 rfl rfl rfl rfl rfl ?_
       refine t_st rfl (st_pick_t rfl rfl) ?_
       refine t_as rfl rfl ?_
       refine t_nil ?_
       obtain rfl := some1 hm
       exact x_join (e' := [(1, .pointer (some ⟨g179, 0, none⟩)), (16, .bool (true))]) ⟨rfl, rfl, trivial⟩ (.refl _) ⟨rfl, rfl, (Base.Le.refl _)⟩
      ·
       rw [if_neg hc191] at hm
       refine t_st rfl (st_pick_f rfl rfl) ?_
       refine t_mv rfl rfl ?_
       refine t_yes 33 rfl rfl rfl ?_
       refine t_st rfl (st_field rfl fld28_3) ?_
       refine t_yes 33 rfl rfl rfl ?_
       refine t_st rfl (st_load 0 rfl one25 rfl rfl) ?_
       refine t_yes 33 rfl rfl rfl ?_
       refine t_st rfl (st_len rfl sl25) ?_
       refine t_yes 33 rfl rfl rfl ?_
       refine t_bool rfl (st_gtr rfl rfl) (fun hc192 => ?_) (fun hc192 => ?_)
       ·
        rw [if_pos hc192] at hm
        refine t_st rfl (st_pick_f rfl rfl) ?_
        refine t_mv rfl rfl ?_
        refine t_no 39 rfl rfl rfl rfl rfl ?_
        refine t_no 39 rfl rfl rfl rfl rfl ?_
        refine t_no 39 rfl rfl rfl rfl rfl ?_
        refine t_no 39 rfl rfl rfl rfl rfl ?_
        refine t_st rfl (st_pick_t rfl rfl) ?_
        refine t_as rfl rfl ?_
        refine t_nil ?_
        obtain rfl := some1 hm
        exact x_join (e' := [(1, .pointer (some ⟨g179, 0, none⟩)), (16, .bool (true))]) ⟨rfl, rfl, trivial⟩ (.refl _) ⟨rfl, rfl, (Base.Le.refl _)⟩
       ·
        rw [if_neg hc192] at hm
        refine t_st rfl (st_pick_f rfl rfl) ?_
        refine t_mv rfl rfl ?_
        refine t_yes 39 rfl rfl rfl ?_
        refine t_st rfl (st_field rfl fld28_4) ?_
        refine t_yes 39 rfl rfl rfl ?_
        refine t_st rfl (st_load 0 rfl one26 rfl rfl) ?_
        refine t_yes 39 rfl rfl rfl ?_
        refine t_st rfl (st_len rfl sl26) ?_
        refine t_yes 39 rfl rfl rfl ?_
        refine t_st rfl (st_gtr rfl rfl) ?_
        refine t_st rfl (st_pick_f rfl rfl) ?_
        refine t_as rfl rfl ?_
        refine t_nil ?_
        obtain rfl := some1 hm
        exact x_join (e' := [(1, .pointer (some ⟨g179, 0, none⟩)), (16, .bool (decide (8 < (s1.Gates.length : Int))))]) ⟨rfl, rfl, trivial⟩ (.refl _) ⟨rfl, rfl, (Base.Le.refl _)⟩
   ·
    rintro b185 _ _ ⟨rfl, rfl, hle186⟩
    have hm := hk188
    refine c_cond _ rfl (fun hc193 => ?_) (fun hc193 => ?_)
    ·
     rw [if_pos hc193] at hm
     refine c_sr ?_
     refine t_as rfl rfl ?_
     refine t_ne ?_
     refine c_ret ?_
     refine x_block_ret ?_
     refine x_then_ret ?_
     obtain rfl := some1 hm
     exact retM (rs := [.tmp 2]) [.int .i64 (4)] hle186 (by decide) rfl ⟨rfl, trivial⟩ rfl (.cons _ (.refl _)) ⟨rfl, rfl⟩
    ·
     rw [if_neg (fun hh => Bool.noConfusion (hh.symm.trans hc193))] at hm
     refine c_skip ?_
     refine x_block_normal ?_
     refine x_then_normal ?_
     refine c_seq ?_
     refine c_sr ?_
     refine t_st rfl (st_field rfl fld28_0) ?_
     refine t_st rfl (st_load 0 rfl one22 rfl rfl) ?_
     refine t_st rfl (st_len rfl sl22) ?_
     refine t_mv rfl rfl ?_
     refine t_ne ?_
     refine c_block ?_
     have hb195 : s1.Stations.length ≤ 9223372036854775807 := (FZ.bd (h4.le hle186))
     obtain ⟨t230, hl231, hk232⟩ := bindS hm
     refine c_forM (fun k229 => fun _ => fun b227 e' hp' => [(1, .pointer (some ⟨g179, 0, none⟩)), (46, .slice A2 (s1.Stations).length c3), (47, .int .i64 ((s1.Stations.length : Int))), (48, .int .i64 ((k229 : Int)))] = e' ∧ (g179, Cl 28 [.slice A2 (s1.Stations).length c3, .slice A5 (s1.Sections).length c6, .slice A8 (s1.Links).length c9, .slice A11 (s1.Signals).length c12, .slice A14 (s1.Gates).length c15]) :: R = hp' ∧ b185.Le b227) hl231 (e' := [(1, .pointer (some ⟨g179, 0, none⟩)), (46, .slice A2 (s1.Stations).length c3), (47, .int .i64 ((s1.Stations.length : Int))), (48, .int .i64 0)]) ⟨rfl, rfl, rfl, rfl, trivial⟩ (.refl _) ⟨rfl, rfl, (Base.Le.refl _)⟩ ?_ ?_
     ·
      rintro k229 _ b227 _ _ oL194 hknL194 ⟨rfl, rfl, hle228⟩ hstepL194 houtL194
      unfold mLineCheck_L194 at hstepL194
      have hm := hstepL194
      refine c_sr ?_
      refine t_st rfl (st_lss_t rfl rfl (by omega)) ?_
      refine t_ne ?_
      refine c_seq ?_
      refine c_cond_t rfl ?_
      refine c_skip ?_
      refine x_then_normal ?_
      refine c_seq ?_
      refine c_block ?_
      refine c_sr ?_
      refine t_mv rfl rfl ?_
      obtain ⟨x233, h234, hm⟩ := bindS hm
      obtain ⟨j235, hj236, hx237⟩ := idx_some h234
      obtain ⟨cs238, hr239, hcs240, hA241, hlt242⟩ := FZ.get (sz := 1) rfl (by decide) (h4.le (hle186.trans hle228)) hx237
      obtain rfl := hr239
      refine t_st rfl (st_index_old j235 rfl rfl hj236 hlt242 hA241 sl22) ?_
      refine t_st rfl (st_load_old rfl one9 (hcs240 0 _ rfl)) ?_
      refine t_as rfl rfl ?_
      refine t_as rfl rfl ?_
      refine t_ne ?_
      refine c_block ?_
      refine c_sr ?_
      refine t_mv rfl rfl ?_
      obtain ⟨x243, hcl244, hm⟩ := bindS hm
      refine t_do rfl (u_callW0 _ call41 rfl (fun w ho => cLineName _ [] x233 x243 hcl244) (fun _ _ _ h => h.2.symm)) ?_
      rintro _ _ ⟨⟨_, rfl, _⟩, rfl⟩
      refine t_st rfl (st_not rfl) ?_
      refine t_as rfl rfl ?_
      refine t_ne ?_
      refine c_cond _ rfl (fun hc245 => ?_) (fun hc245 => ?_)
      ·
       rw [if_neg (fun hh => Bool.noConfusion (hh.symm.trans (notT hc245)))] at hm
       refine c_sr ?_
       refine t_as rfl rfl ?_
       refine t_ne ?_
       refine c_ret ?_
       refine x_block_ret ?_
       refine x_block_ret ?_
       refine x_then_ret ?_
       refine x_then_ret ?_
       refine x_block_ret ?_
       refine x_then_ret ?_
       have hq246 := houtL194 _ (Option.some.inj hm).symm
       rw [hq246] at hk232
       have hm := elimR hk232
       obtain rfl := some1 hm
       exact retM (rs := [.tmp 2]) [.int .i64 (1)] (hle186.trans hle228) (by decide) rfl ⟨rfl, trivial⟩ rfl (.cons _ (.refl _)) ⟨rfl, rfl⟩
      ·
       rw [if_pos (notF hc245)] at hm
       refine c_sr ?_
       refine t_st rfl (st_field rfl fld28_0) ?_
       refine t_st rfl (st_load 0 rfl one22 rfl rfl) ?_
       refine t_mv rfl rfl ?_
       obtain ⟨l247, h248, hm⟩ := bindS hm
       obtain ⟨j249, j250, hj251, hj252, hj253, hj254, hx255⟩ := cutS_some h248
       have h256 := FZ.sub (sz := 1) rfl (h4.le (hle186.trans hle228)) hj253 hj254
       have h257 := (h4.le (hle186.trans hle228)).1.1
       rw [← hx255] at h256
       refine t_st rfl (hx255 ▸ st_part (l := s1.Stations) j249 j250 rfl (.inl ⟨rfl, by omega⟩) (.inr ⟨_, _, _, rfl, rfl, hj252⟩) hj253 hj254 h257 sl22) ?_
       refine t_mv rfl rfl ?_
       obtain ⟨x262, hcl263, hm⟩ := bindS hm
       refine t_do rfl (u_callW0 _ call42 rfl (fun w ho => cSlicesContains _ [] l247 x233 (subA A2 c3 j249 1) (c3 - j249) (h256.old ho) x262 hcl263) (fun _ _ _ h => h.2.symm)) ?_
       rintro _ _ ⟨⟨_, rfl, _⟩, rfl⟩
       refine t_as rfl rfl ?_
       refine t_ne ?_
       refine c_cond _ rfl (fun hc264 => ?_) (fun hc264 => ?_)
       ·
        rw [if_pos hc264] at hm
        refine c_sr ?_
        refine t_as rfl rfl ?_
        refine t_ne ?_
        refine c_ret ?_
        refine x_block_ret ?_
        refine x_block_ret ?_
        refine x_then_ret ?_
        refine x_then_ret ?_
        refine x_block_ret ?_
        refine x_then_ret ?_
        have hq265 := houtL194 _ (Option.some.inj hm).symm
        rw [hq265] at hk232
        have hm := elimR hk232
        obtain rfl := some1 hm
        exact retM (rs := [.tmp 2]) [.int .i64 (6)] (hle186.trans hle228) (by decide) rfl ⟨rfl, trivial⟩ rfl (.cons _ (.refl _)) ⟨rfl, rfl⟩
       ·
        rw [if_neg (fun hh => Bool.noConfusion (hh.symm.trans hc264))] at hm
        refine c_skip ?_
        refine x_block_normal ?_
        refine x_block_normal ?_
        refine x_then_normal ?_
        refine c_region ?_
        refine t_st rfl (st_add rfl rfl (by omega)) ?_
        refine t_mv rfl rfl ?_
        refine t_nil ?_
        exact x_againM () (Option.some.inj hm).symm (e' := [(1, .pointer (some ⟨g179, 0, none⟩)), (46, .slice A2 (s1.Stations).length c3), (47, .int .i64 ((s1.Stations.length : Int))), (48, .int .i64 ((k229 : Int) + 1))]) ⟨rfl, rfl, rfl, rfl, trivial⟩ (.refl _) ⟨rfl, rfl, (hle228)⟩
     ·
      rintro _ b227 _ _ ⟨rfl, rfl, hle228⟩ hq266
      rw [hq266] at hk232
      have hm := elimL hk232
      refine c_sr ?_
      refine t_st rfl (st_lss_f rfl rfl (by omega)) ?_
      refine t_ne ?_
      refine c_seq ?_
      refine c_cond_f rfl ?_
      refine c_exit ?_
      refine x_then_exit ?_
      refine x_then_exit ?_
      refine x_block_out ?_
      refine x_then_normal ?_
      refine c_seq ?_
      refine c_sr ?_
      refine t_st rfl (st_field rfl fld28_1) ?_
      refine t_st rfl (st_load 0 rfl one23 rfl rfl) ?_
      refine t_st rfl (st_len rfl sl23) ?_
      refine t_mv rfl rfl ?_
      refine t_ne ?_
      refine c_block ?_
      have hb268 : s1.Sections.length ≤ 9223372036854775807 := (FZ.bd (h7.le (hle186.trans hle228)))
      obtain ⟨t286, hl287, hk288⟩ := bindS hm
      refine c_forM (fun k285 => fun _ => fun b283 e' hp' => [(1, .pointer (some ⟨g179, 0, none⟩)), (66, .slice A5 (s1.Sections).length c6), (67, .int .i64 ((s1.Sections.length : Int))), (68, .int .i64 ((k285 : Int)))] = e' ∧ (g179, Cl 28 [.slice A2 (s1.Stations).length c3, .slice A5 (s1.Sections).length c6, .slice A8 (s1.Links).length c9, .slice A11 (s1.Signals).length c12, .slice A14 (s1.Gates).length c15]) :: R = hp' ∧ b227.Le b283) hl287 (e' := [(1, .pointer (some ⟨g179, 0, none⟩)), (66, .slice A5 (s1.Sections).length c6), (67, .int .i64 ((s1.Sections.length : Int))), (68, .int .i64 0)]) ⟨rfl, rfl, rfl, rfl, trivial⟩ (.refl _) ⟨rfl, rfl, (Base.Le.refl _)⟩ ?_ ?_
      ·
       rintro k285 _ b283 _ _ oL267 hknL267 ⟨rfl, rfl, hle284⟩ hstepL267 houtL267
       unfold mLineCheck_L267 at hstepL267
       have hm := hstepL267
       refine c_sr ?_
       refine t_st rfl (st_lss_t rfl rfl (by omega)) ?_
       refine t_ne ?_
       refine c_seq ?_
       refine c_cond_t rfl ?_
       refine c_skip ?_
       refine x_then_normal ?_
       refine c_seq ?_
       refine c_block ?_
       refine c_sr ?_
       obtain ⟨x289, h290, hm⟩ := bindS hm
       obtain ⟨j291, hj292, hx293⟩ := idx_some h290
       obtain ⟨cs294, hr295, hcs296, hA297, hlt298⟩ := FZ.get (sz := 7) rfl (by decide) (h7.le (hle186.trans (hle228.trans hle284))) hx293
       obtain ⟨_, _, rfl, rfl, ⟨_, _, rfl, rfl, ⟨_, _, rfl, rfl, ⟨_, _, rfl, rfl, ⟨_, _, rfl, rfl, ⟨_, _, rfl, rfl, rfl⟩⟩⟩⟩⟩⟩ := hr295
       refine t_st rfl (st_index_old j291 rfl rfl hj292 hlt298 hA297 sl23) ?_
       refine t_st rfl (st_loadN_old (vs := [.int .i64 (x289.Kind), .int .i64 (x289.Length), .int .i64 (x289.Grade), .int .i64 (x289.Speed), .int .i64 (x289.Slow), .int .i64 (x289.Station), .bool (x289.Axles)]) 7 rfl agg91 hA297 rfl (fun j u hu => hcs296 j u hu)) ?_
       refine t_do rfl (u_alloc [.int .i64 0, .int .i64 0, .int .i64 0, .int .i64 0, .int .i64 0, .int .i64 0, .bool false] zero91 rfl) ?_
       rintro _ _ ⟨g299, rfl, rfl⟩
       refine t_do rfl (u_storeN (vs := [_, _, _, _, _, _, _]) 0 7 rfl rfl rfl siz91 rfl (mem_c rfl (mem_c rfl (mem_c rfl (mem_c rfl (mem_c rfl (mem_c rfl (mem_c rfl mem_n))))))) rfl (by simp)) ?_
       rintro _ _ rfl
       refine t_ne ?_
       refine c_sr ?_
       refine t_st rfl (st_loadD (vs := [_, _, _, _, _, _, _]) 0 7 rfl agg91 rfl rfl rfl) ?_
       refine t_st rfl (st_field rfl fld28_0) ?_
       refine t_st rfl (st_load 1 rfl one22 rfl rfl) ?_
       refine t_st rfl (st_len rfl sl22) ?_
       obtain ⟨x300, hcl301, hm⟩ := bindS hm
       refine t_do rfl (u_callW0 _ call43 rfl (fun w ho => cLineCheckSection _ [] x289 (s1.Stations.length : Int) x300 hcl301) (fun _ _ _ h => h.2.symm)) ?_
       rintro _ _ ⟨⟨_, rfl, _⟩, rfl⟩
       refine t_as rfl rfl ?_
       refine t_ne ?_
       refine c_sr ?_
       refine t_mv rfl rfl ?_
       refine t_st rfl (st_neq rfl rfl) ?_
       refine t_ne ?_
       refine c_cond _ rfl (fun hc302 => ?_) (fun hc302 => ?_)
       ·
        rw [if_pos (of_decide_eq_true hc302)] at hm
        refine c_sr ?_
        refine t_mv rfl rfl ?_
        refine t_as rfl rfl ?_
        refine t_ne ?_
        refine c_ret ?_
        refine x_block_ret ?_
        refine x_then_ret ?_
        refine x_then_ret ?_
        refine x_block_ret ?_
        refine x_then_ret ?_
        have hq303 := houtL267 _ (Option.some.inj hm).symm
        rw [hq303] at hk288
        have hm := elimR hk288
        obtain rfl := some1 hm
        exact retM (rs := [.tmp 2]) [.int .i64 (x300)] (hle186.trans (hle228.trans hle284)) (by decide) rfl ⟨rfl, trivial⟩ rfl (.cons _ (.cons _ (.refl _))) ⟨rfl, rfl⟩
       ·
        rw [if_neg (of_decide_eq_false hc302)] at hm
        refine c_skip ?_
        refine x_block_normal ?_
        refine x_then_normal ?_
        refine c_region ?_
        refine t_st rfl (st_add rfl rfl (by omega)) ?_
        refine t_mv rfl rfl ?_
        refine t_nil ?_
        refine x_pullb 1 rfl ?_
        exact x_againM () (Option.some.inj hm).symm (e' := [(1, .pointer (some ⟨g179, 0, none⟩)), (66, .slice A5 (s1.Sections).length c6), (67, .int .i64 ((s1.Sections.length : Int))), (68, .int .i64 ((k285 : Int) + 1))]) ⟨rfl, rfl, rfl, rfl, trivial⟩ (.cons_cons _ (.cons _ (.refl _))) ⟨rfl, rfl, (hle284)⟩
      ·
       rintro _ b283 _ _ ⟨rfl, rfl, hle284⟩ hq304
       rw [hq304] at hk288
       have hm := elimL hk288
       refine c_sr ?_
       refine t_st rfl (st_lss_f rfl rfl (by omega)) ?_
       refine t_ne ?_
       refine c_seq ?_
       refine c_cond_f rfl ?_
       refine c_exit ?_
       refine x_then_exit ?_
       refine x_then_exit ?_
       refine x_block_out ?_
       refine x_then_normal ?_
       refine c_seq ?_
       refine c_sr ?_
       refine t_st rfl (st_build (v := .agg #[.func (.func 44) #[] #[], .func (.func 45) #[] #[], .func (.func 46) #[] #[]]) [(0, .func (.func 44) #[] #[]), (1, .func (.func 45) #[] #[]), (2, .func (.func 46) #[] #[])] rfl (fun _ => by kernel_rfl)) ?_
       refine t_mv rfl rfl ?_
       refine t_ne ?_
       refine c_block ?_
       obtain ⟨t321, hl322, hk323⟩ := bindS hm
       refine c_forM (fun k320 => fun _ => fun b318 e' hp' => [(1, .pointer (some ⟨g179, 0, none⟩)), (81, .agg #[.func (.func 44) #[] #[], .func (.func 45) #[] #[], .func (.func 46) #[] #[]]), (82, .int .i64 ((k320 : Int)))] = e' ∧ (g179, Cl 28 [.slice A2 (s1.Stations).length c3, .slice A5 (s1.Sections).length c6, .slice A8 (s1.Links).length c9, .slice A11 (s1.Signals).length c12, .slice A14 (s1.Gates).length c15]) :: R = hp' ∧ b283.Le b318) hl322 (e' := [(1, .pointer (some ⟨g179, 0, none⟩)), (81, .agg #[.func (.func 44) #[] #[], .func (.func 45) #[] #[], .func (.func 46) #[] #[]]), (82, .int .i64 0)]) ⟨rfl, rfl, rfl, trivial⟩ (.refl _) ⟨rfl, rfl, (Base.Le.refl _)⟩ ?_ ?_
       ·
        rintro k320 _ b318 _ _ oL305 hknL305 ⟨rfl, rfl, hle319⟩ hstepL305 houtL305
        unfold mLineCheck_L305 at hstepL305
        have hm := hstepL305
        refine c_sr ?_
        refine t_st rfl (st_lss_t rfl rfl (by omega)) ?_
        refine t_ne ?_
        refine c_seq ?_
        refine c_cond_t rfl ?_
        refine c_skip ?_
        refine x_then_normal ?_
        refine c_seq ?_
        refine c_block ?_
        refine c_sr ?_
        rcases Decidable.em ((k320 : Int) = (0 : Int)) with hi324 | hi324
        ·
         rw [if_pos hi324] at hm
         refine t_st rfl (st_aidx1 (cs := [.func (.func 44) #[] #[], .func (.func 45) #[] #[], .func (.func 46) #[] #[]]) 0 rfl rfl hi324 (by decide) rfl arr103 one72) ?_
         refine t_as rfl rfl ?_
         refine t_ne ?_
         refine c_sr ?_
         refine t_mv rfl rfl ?_
         refine t_st rfl (st_loadD (vs := [_, _, _, _, _]) 0 5 rfl agg28 rfl rfl rfl) ?_
         obtain ⟨x325, hcl326, hm⟩ := bindS hm
         refine t_do rfl (u_callvW0 #[] #[] [.agg #[.slice A2 (s1.Stations).length c3, .slice A5 (s1.Sections).length c6, .slice A8 (s1.Links).length c9, .slice A11 (s1.Signals).length c12, .slice A14 (s1.Gates).length c15]] rfl call44 rfl (fun w ho => cLineCheckLinks _ [] s1 A2 c3 A5 c6 A8 c9 A11 c12 A14 c15 ((h4.le (hle186.trans (hle228.trans (hle284.trans hle319)))).old ho) ((h7.le (hle186.trans (hle228.trans (hle284.trans hle319)))).old ho) ((h10.le (hle186.trans (hle228.trans (hle284.trans hle319)))).old ho) ((h13.le (hle186.trans (hle228.trans (hle284.trans hle319)))).old ho) ((h16.le (hle186.trans (hle228.trans (hle284.trans hle319)))).old ho) x325 hcl326) (fun _ _ _ h => h.2.symm)) ?_
         rintro _ _ ⟨⟨_, rfl, _⟩, rfl⟩
         refine t_as rfl rfl ?_
         refine t_ne ?_
         refine c_sr ?_
         refine t_mv rfl rfl ?_
         refine t_st rfl (st_neq rfl rfl) ?_
         refine t_ne ?_
         refine c_cond _ rfl (fun hc327 => ?_) (fun hc327 => ?_)
         ·
          rw [if_pos (of_decide_eq_true hc327)] at hm
          refine c_sr ?_
          refine t_mv rfl rfl ?_
          refine t_as rfl rfl ?_
          refine t_ne ?_
          refine c_ret ?_
          refine x_block_ret ?_
          refine x_then_ret ?_
          refine x_then_ret ?_
          refine x_block_ret ?_
          refine x_then_ret ?_
          have hq328 := houtL305 _ (Option.some.inj hm).symm
          rw [hq328] at hk323
          have hm := elimR hk323
          obtain rfl := some1 hm
          exact retM (rs := [.tmp 2]) [.int .i64 (x325)] (hle186.trans (hle228.trans (hle284.trans hle319))) (by decide) rfl ⟨rfl, trivial⟩ rfl (.cons _ (.refl _)) ⟨rfl, rfl⟩
         ·
          rw [if_neg (of_decide_eq_false hc327)] at hm
          refine c_skip ?_
          refine x_block_normal ?_
          refine x_then_normal ?_
          refine c_region ?_
          refine t_st rfl (st_add rfl rfl (by omega)) ?_
          refine t_mv rfl rfl ?_
          refine t_nil ?_
          exact x_againM () (Option.some.inj hm).symm (e' := [(1, .pointer (some ⟨g179, 0, none⟩)), (81, .agg #[.func (.func 44) #[] #[], .func (.func 45) #[] #[], .func (.func 46) #[] #[]]), (82, .int .i64 ((k320 : Int) + 1))]) ⟨rfl, rfl, rfl, trivial⟩ (.refl _) ⟨rfl, rfl, (hle319)⟩
        ·
         rw [if_neg hi324] at hm
         rcases Decidable.em ((k320 : Int) = (1 : Int)) with hi329 | hi329
         ·
          rw [if_pos hi329] at hm
          refine t_st rfl (st_aidx1 (cs := [.func (.func 44) #[] #[], .func (.func 45) #[] #[], .func (.func 46) #[] #[]]) 1 rfl rfl hi329 (by decide) rfl arr103 one72) ?_
          refine t_as rfl rfl ?_
          refine t_ne ?_
          refine c_sr ?_
          refine t_mv rfl rfl ?_
          refine t_st rfl (st_loadD (vs := [_, _, _, _, _]) 0 5 rfl agg28 rfl rfl rfl) ?_
          obtain ⟨x330, hcl331, hm⟩ := bindS hm
          refine t_do rfl (u_callvW0 #[] #[] [.agg #[.slice A2 (s1.Stations).length c3, .slice A5 (s1.Sections).length c6, .slice A8 (s1.Links).length c9, .slice A11 (s1.Signals).length c12, .slice A14 (s1.Gates).length c15]] rfl call45 rfl (fun w ho => cLineCheckSignals _ [] s1 A2 c3 A5 c6 A8 c9 A11 c12 A14 c15 ((h4.le (hle186.trans (hle228.trans (hle284.trans hle319)))).old ho) ((h7.le (hle186.trans (hle228.trans (hle284.trans hle319)))).old ho) ((h10.le (hle186.trans (hle228.trans (hle284.trans hle319)))).old ho) ((h13.le (hle186.trans (hle228.trans (hle284.trans hle319)))).old ho) ((h16.le (hle186.trans (hle228.trans (hle284.trans hle319)))).old ho) x330 hcl331) (fun _ _ _ h => h.2.symm)) ?_
          rintro _ _ ⟨⟨_, rfl, _⟩, rfl⟩
          refine t_as rfl rfl ?_
          refine t_ne ?_
          refine c_sr ?_
          refine t_mv rfl rfl ?_
          refine t_st rfl (st_neq rfl rfl) ?_
          refine t_ne ?_
          refine c_cond _ rfl (fun hc332 => ?_) (fun hc332 => ?_)
          ·
           rw [if_pos (of_decide_eq_true hc332)] at hm
           refine c_sr ?_
           refine t_mv rfl rfl ?_
           refine t_as rfl rfl ?_
           refine t_ne ?_
           refine c_ret ?_
           refine x_block_ret ?_
           refine x_then_ret ?_
           refine x_then_ret ?_
           refine x_block_ret ?_
           refine x_then_ret ?_
           have hq333 := houtL305 _ (Option.some.inj hm).symm
           rw [hq333] at hk323
           have hm := elimR hk323
           obtain rfl := some1 hm
           exact retM (rs := [.tmp 2]) [.int .i64 (x330)] (hle186.trans (hle228.trans (hle284.trans hle319))) (by decide) rfl ⟨rfl, trivial⟩ rfl (.cons _ (.refl _)) ⟨rfl, rfl⟩
          ·
           rw [if_neg (of_decide_eq_false hc332)] at hm
           refine c_skip ?_
           refine x_block_normal ?_
           refine x_then_normal ?_
           refine c_region ?_
           refine t_st rfl (st_add rfl rfl (by omega)) ?_
           refine t_mv rfl rfl ?_
           refine t_nil ?_
           exact x_againM () (Option.some.inj hm).symm (e' := [(1, .pointer (some ⟨g179, 0, none⟩)), (81, .agg #[.func (.func 44) #[] #[], .func (.func 45) #[] #[], .func (.func 46) #[] #[]]), (82, .int .i64 ((k320 : Int) + 1))]) ⟨rfl, rfl, rfl, trivial⟩ (.refl _) ⟨rfl, rfl, (hle319)⟩
         ·
          rw [if_neg hi329] at hm
          rcases Decidable.em ((k320 : Int) = (2 : Int)) with hi334 | hi334
          ·
           rw [if_pos hi334] at hm
           refine t_st rfl (st_aidx1 (cs := [.func (.func 44) #[] #[], .func (.func 45) #[] #[], .func (.func 46) #[] #[]]) 2 rfl rfl hi334 (by decide) rfl arr103 one72) ?_
           refine t_as rfl rfl ?_
           refine t_ne ?_
           refine c_sr ?_
           refine t_mv rfl rfl ?_
           refine t_st rfl (st_loadD (vs := [_, _, _, _, _]) 0 5 rfl agg28 rfl rfl rfl) ?_
           obtain ⟨x335, hcl336, hm⟩ := bindS hm
           refine t_do rfl (u_callvW0 #[] #[] [.agg #[.slice A2 (s1.Stations).length c3, .slice A5 (s1.Sections).length c6, .slice A8 (s1.Links).length c9, .slice A11 (s1.Signals).length c12, .slice A14 (s1.Gates).length c15]] rfl call46 rfl (fun w ho => cLineCheckGates _ [] s1 A2 c3 A5 c6 A8 c9 A11 c12 A14 c15 ((h4.le (hle186.trans (hle228.trans (hle284.trans hle319)))).old ho) ((h7.le (hle186.trans (hle228.trans (hle284.trans hle319)))).old ho) ((h10.le (hle186.trans (hle228.trans (hle284.trans hle319)))).old ho) ((h13.le (hle186.trans (hle228.trans (hle284.trans hle319)))).old ho) ((h16.le (hle186.trans (hle228.trans (hle284.trans hle319)))).old ho) x335 hcl336) (fun _ _ _ h => h.2.symm)) ?_
           rintro _ _ ⟨⟨_, rfl, _⟩, rfl⟩
           refine t_as rfl rfl ?_
           refine t_ne ?_
           refine c_sr ?_
           refine t_mv rfl rfl ?_
           refine t_st rfl (st_neq rfl rfl) ?_
           refine t_ne ?_
           refine c_cond _ rfl (fun hc337 => ?_) (fun hc337 => ?_)
           ·
            rw [if_pos (of_decide_eq_true hc337)] at hm
            refine c_sr ?_
            refine t_mv rfl rfl ?_
            refine t_as rfl rfl ?_
            refine t_ne ?_
            refine c_ret ?_
            refine x_block_ret ?_
            refine x_then_ret ?_
            refine x_then_ret ?_
            refine x_block_ret ?_
            refine x_then_ret ?_
            have hq338 := houtL305 _ (Option.some.inj hm).symm
            rw [hq338] at hk323
            have hm := elimR hk323
            obtain rfl := some1 hm
            exact retM (rs := [.tmp 2]) [.int .i64 (x335)] (hle186.trans (hle228.trans (hle284.trans hle319))) (by decide) rfl ⟨rfl, trivial⟩ rfl (.cons _ (.refl _)) ⟨rfl, rfl⟩
           ·
            rw [if_neg (of_decide_eq_false hc337)] at hm
            refine c_skip ?_
            refine x_block_normal ?_
            refine x_then_normal ?_
            refine c_region ?_
            refine t_st rfl (st_add rfl rfl (by omega)) ?_
            refine t_mv rfl rfl ?_
            refine t_nil ?_
            exact x_againM () (Option.some.inj hm).symm (e' := [(1, .pointer (some ⟨g179, 0, none⟩)), (81, .agg #[.func (.func 44) #[] #[], .func (.func 45) #[] #[], .func (.func 46) #[] #[]]), (82, .int .i64 ((k320 : Int) + 1))]) ⟨rfl, rfl, rfl, trivial⟩ (.refl _) ⟨rfl, rfl, (hle319)⟩
          ·
           rw [if_neg hi334] at hm
           cases hm
       ·
        rintro _ b318 _ _ ⟨rfl, rfl, hle319⟩ hq339
        rw [hq339] at hk323
        have hm := elimL hk323
        refine c_sr ?_
        refine t_st rfl (st_lss_f rfl rfl (by omega)) ?_
        refine t_ne ?_
        refine c_seq ?_
        refine c_cond_f rfl ?_
        refine c_exit ?_
        refine x_then_exit ?_
        refine x_then_exit ?_
        refine x_block_out ?_
        refine x_then_normal ?_
        refine c_sr ?_
        refine t_as rfl rfl ?_
        refine t_ne ?_
        refine c_ret ?_
        obtain rfl := some1 hm
        exact retM (rs := [.tmp 2]) [.int .i64 (0)] (hle186.trans (hle228.trans (hle284.trans hle319))) (by decide) rfl ⟨rfl, trivial⟩ rfl (.cons _ (.refl _)) ⟨rfl, rfl⟩

set_option maxRecDepth 20000 in
theorem cLineRead (b : Base) (R : Hp) (x1 : ByteArray) (l68 : (List ByteArray)) (l73 : (List ApiSection)) (l78 : (List ApiLink)) (l83 : (List ApiSignal)) (l88 : (List ApiGate)) (x90 : Int) (hm : mLineRead x1 = some (l68, l73, l78, l83, l88, x90)) :
    CallsG Tryz.prog 13 [.string (x1)] b (R) (fun v b' hp' => ∃ (A65 : Option Addr), ∃ (c66 : Nat), ∃ (A70 : Option Addr), ∃ (c71 : Nat), ∃ (A75 : Option Addr), ∃ (c76 : Nat), ∃ (A80 : Option Addr), ∃ (c81 : Nat), ∃ (A85 : Option Addr), ∃ (c86 : Nat), .tuple #[.agg #[.slice A65 (l68).length c66, .slice A70 (l73).length c71, .slice A75 (l78).length c76, .slice A80 (l83).length c81, .slice A85 (l88).length c86], .int .i64 (x90)] = v ∧ R = hp' ∧ FZ RT.str b'.w A65 c66 l68 ∧ (A65 = none ↔ l68 = []) ∧ FZ rApiSection b'.w A70 c71 l73 ∧ (A70 = none ↔ l73 = []) ∧ FZ rApiLink b'.w A75 c76 l78 ∧ (A75 = none ↔ l78 = []) ∧ FZ rApiSignal b'.w A80 c81 l83 ∧ (A80 = none ↔ l83 = []) ∧ FZ rApiGate b'.w A85 c86 l88 ∧ (A85 = none ↔ l88 = [])) := by
  refine fn_enterG 45 Tryz.func13 rfl Tryz.ntmps13 rfl ?_
  unfold mLineRead at hm
  refine c_sr ?_
  refine t_do rfl (u_alloc [.slice none 0 0, .slice none 0 0, .slice none 0 0, .slice none 0 0, .slice none 0 0] zero28 rfl) ?_
  rintro _ _ ⟨g91, rfl, rfl⟩
  refine t_as rfl rfl ?_
  refine t_ne ?_
  refine c_seq ?_
  refine c_sr ?_
  refine t_mv rfl rfl ?_
  refine t_st rfl (st_slen rfl str9) ?_
  refine t_st rfl (st_gtr rfl rfl) ?_
  refine t_ne ?_
  refine c_cond _ rfl (fun hc92 => ?_) (fun hc92 => ?_)
  ·
   rw [if_pos (of_decide_eq_true hc92)] at hm
   refine c_sr ?_
   refine t_st rfl (st_build (v := .agg #[.slice none 0 0, .slice none 0 0, .slice none 0 0, .slice none 0 0, .slice none 0 0]) [] rfl (fun _ => by kernel_rfl)) ?_
   refine t_do rfl (u_storeN (vs := [_, _, _, _, _]) 0 5 rfl rfl rfl siz28 rfl (mem_c rfl (mem_c rfl (mem_c rfl (mem_c rfl (mem_c rfl mem_n))))) rfl (by simp)) ?_
   rintro _ _ rfl
   refine t_as rfl rfl ?_
   refine t_ne ?_
   refine c_ret ?_
   refine x_then_ret ?_
   obtain ⟨rfl, rfl, rfl, rfl, rfl, rfl⟩ := some6 hm
   exact retM (rs := [.cell 2 28, .tmp 3]) [.agg #[.slice none 0 0, .slice none 0 0, .slice none 0 0, .slice none 0 0, .slice none 0 0], .int .i64 (4)] (Base.Le.refl _) (by decide) rfl ⟨⟨_, rfl, fun w ho => cell_agg (vs := [_, _, _, _, _]) 0 5 agg28 rfl rfl rfl w ho⟩, ⟨rfl, trivial⟩⟩ rfl (.cons _ (.refl _)) ⟨none, 0, none, 0, none, 0, none, 0, none, 0, rfl, rfl, FZ.nil, ⟨fun _ => rfl, fun _ => rfl⟩, FZ.nil, ⟨fun _ => rfl, fun _ => rfl⟩, FZ.nil, ⟨fun _ => rfl, fun _ => rfl⟩, FZ.nil, ⟨fun _ => rfl, fun _ => rfl⟩, FZ.nil, ⟨fun _ => rfl, fun _ => rfl⟩⟩
  ·
   rw [if_neg (of_decide_eq_false hc92)] at hm
   refine c_skip ?_
   refine x_then_normal ?_
   refine c_sr ?_
   refine t_mv rfl rfl ?_
   obtain ⟨⟨x93, l94⟩, hcl95, hm⟩ := bindS hm
   have hm := (unc2E hm)
   refine t_callG _ rfl call28 rfl (cLineLines _ _ x1 x93 l94 hcl95) ?_
   rintro _ b96 _ hle97 ⟨A98, c99, hs100, rfl, rfl, h101⟩
   refine t_in1 [] [_] hs100 R rfl ?_
   refine t_mv rfl rfl ?_
   refine t_st rfl (st_extract rfl rfl) ?_
   refine t_st rfl (st_extract rfl rfl) ?_
   refine t_as rfl rfl ?_
   refine t_as rfl rfl ?_
   refine t_ne ?_
   refine c_seq ?_
   refine c_sr ?_
   refine t_mv rfl rfl ?_
   refine t_st rfl (st_not rfl) ?_
   refine t_ne ?_
   refine c_cond _ rfl (fun hc102 => ?_) (fun hc102 => ?_)
   ·
    rw [if_neg (fun hh => Bool.noConfusion (hh.symm.trans (notT hc102)))] at hm
    refine c_sr ?_
    refine t_st rfl (st_build (v := .agg #[.slice none 0 0, .slice none 0 0, .slice none 0 0, .slice none 0 0, .slice none 0 0]) [] rfl (fun _ => by kernel_rfl)) ?_
    refine t_do rfl (u_storeN (vs := [_, _, _, _, _]) 0 5 rfl rfl rfl siz28 rfl (mem_c rfl (mem_c rfl (mem_c rfl (mem_c rfl (mem_c rfl mem_n))))) rfl (by simp)) ?_
    rintro _ _ rfl
    refine t_as rfl rfl ?_
    refine t_ne ?_
    refine c_ret ?_
    refine x_then_ret ?_
    obtain ⟨rfl, rfl, rfl, rfl, rfl, rfl⟩ := some6 hm
    exact retM (rs := [.cell 2 28, .tmp 3]) [.agg #[.slice none 0 0, .slice none 0 0, .slice none 0 0, .slice none 0 0, .slice none 0 0], .int .i64 (10)] hle97 (by decide) rfl ⟨⟨_, rfl, fun w ho => cell_agg (vs := [_, _, _, _, _]) 0 5 agg28 rfl rfl rfl w ho⟩, ⟨rfl, trivial⟩⟩ rfl (.cons _ (sub_skip hs100 (.refl _))) ⟨none, 0, none, 0, none, 0, none, 0, none, 0, rfl, rfl, FZ.nil, ⟨fun _ => rfl, fun _ => rfl⟩, FZ.nil, ⟨fun _ => rfl, fun _ => rfl⟩, FZ.nil, ⟨fun _ => rfl, fun _ => rfl⟩, FZ.nil, ⟨fun _ => rfl, fun _ => rfl⟩, FZ.nil, ⟨fun _ => rfl, fun _ => rfl⟩⟩
   ·
    rw [if_pos (notF hc102)] at hm
    refine c_skip ?_
    refine x_then_normal ?_
    refine c_sr ?_
    refine t_do rfl (u_alloc [.slice none 0 0, .slice none 0 0, .slice none 0 0, .slice none 0 0, .slice none 0 0] zero28 rfl) ?_
    rintro _ _ ⟨g103, rfl, rfl⟩
    refine t_ne ?_
    refine c_sr ?_
    refine t_as rfl rfl ?_
    refine t_ne ?_
    refine c_seq ?_
    refine c_sr ?_
    refine t_mv rfl rfl ?_
    refine t_st rfl (st_len rfl sl74) ?_
    refine t_mv rfl rfl ?_
    refine t_ne ?_
    refine c_block ?_
    have hb105 : l94.length ≤ 9223372036854775807 := (OS.len h101)
    refine c_pullb 1 rfl ?_
    obtain ⟨t128, hl129, hk130⟩ := bindS hm
    refine c_forM (fun k127 => fun _ => fun b125 e' hp' => [(2, .pointer (some ⟨g91, 0, none⟩)), (6, .pointer (some ⟨g103, 0, none⟩)), (7, .int .i64 (0)), (24, .slice A98 (l94).length c99), (25, .int .i64 ((l94.length : Int))), (26, .int .i64 ((k127 : Int)))] = e' ∧ (g91, Cl 28 [.slice none 0 0, .slice none 0 0, .slice none 0 0, .slice none 0 0, .slice none 0 0]) :: (g103, Cl 28 [.slice none 0 0, .slice none 0 0, .slice none 0 0, .slice none 0 0, .slice none 0 0]) :: (hs100 ++ R) = hp' ∧ b96.Le b125) hl129 (e' := [(2, .pointer (some ⟨g91, 0, none⟩)), (6, .pointer (some ⟨g103, 0, none⟩)), (7, .int .i64 (0)), (24, .slice A98 (l94).length c99), (25, .int .i64 ((l94.length : Int))), (26, .int .i64 0)]) ⟨rfl, rfl, rfl, rfl, rfl, rfl, trivial⟩ (.refl _) ⟨rfl, rfl, (Base.Le.refl _)⟩ ?_ ?_
    ·
     rintro k127 _ b125 _ _ oL104 hknL104 ⟨rfl, rfl, hle126⟩ hstepL104 houtL104
     unfold mLineRead_L104 at hstepL104
     have hm := hstepL104
     refine c_sr ?_
     refine t_st rfl (st_lss_t rfl rfl (by omega)) ?_
     refine t_ne ?_
     refine c_seq ?_
     refine c_cond_t rfl ?_
     refine c_skip ?_
     refine x_then_normal ?_
     refine c_seq ?_
     refine c_block ?_
     refine c_sr ?_
     obtain ⟨x131, h132, hm⟩ := bindS hm
     obtain ⟨j133, hj134, hx135⟩ := idx_some h132
     obtain ⟨cs136, hs141, P142, P143, hq144, hr137, hcs138, hA139, hlt140, hb145, hho146⟩ := OS.get (sz := 1) rfl (by decide) (h101.le hle126) hx135
     obtain ⟨⟨A147, c148, rfl, h149⟩, rfl⟩ := hr137
     refine t_st rfl (st_index_old j133 rfl rfl hj134 hlt140 hA139 sl74) ?_
     refine t_st rfl (st_load_rd rfl one22 (fun w ho => hcs138 w _ ho (.cons _ (.cons _ (List.sublist_append_left _ _))) 0 _ rfl)) ?_
     refine t_as rfl rfl ?_
     refine t_ne ?_
     refine c_sr ?_
     refine t_mv rfl rfl ?_
     cases hm
    ·
     rintro _ b125 _ _ ⟨rfl, rfl, hle126⟩ hq150
     rw [hq150] at hk130
     have hm := elimL hk130
     refine c_sr ?_
     refine t_st rfl (st_lss_f rfl rfl (by omega)) ?_
     refine t_ne ?_
     refine c_seq ?_
     refine c_cond_f rfl ?_
     refine c_exit ?_
     refine x_then_exit ?_
     refine x_then_exit ?_
     refine x_block_out ?_
     refine x_then_normal ?_
     refine c_seq ?_
     refine c_sr ?_
     refine t_st rfl (st_loadD (vs := [_, _, _, _, _]) 1 5 rfl agg28 rfl rfl rfl) ?_
     obtain ⟨x151, hcl152, hm⟩ := bindS hm
     refine t_do rfl (u_callW0 _ call25 rfl (fun w ho => cLineCheck _ [] (⟨[], [], [], [], []⟩ : ApiNet) none 0 none 0 none 0 none 0 none 0 FZ.nil FZ.nil FZ.nil FZ.nil FZ.nil x151 hcl152) (fun _ _ _ h => h.2.symm)) ?_
     rintro _ _ ⟨⟨_, rfl, _⟩, rfl⟩
     refine t_as rfl rfl ?_
     refine t_ne ?_
     refine c_sr ?_
     refine t_mv rfl rfl ?_
     refine t_st rfl (st_neq rfl rfl) ?_
     refine t_ne ?_
     refine c_cond _ rfl (fun hc153 => ?_) (fun hc153 => ?_)
     ·
      rw [if_pos (of_decide_eq_true hc153)] at hm
      refine c_sr ?_
      refine t_st rfl (st_build (v := .agg #[.slice none 0 0, .slice none 0 0, .slice none 0 0, .slice none 0 0, .slice none 0 0]) [] rfl (fun _ => by kernel_rfl)) ?_
      refine t_mv rfl rfl ?_
      refine t_do rfl (u_storeN (vs := [_, _, _, _, _]) 0 5 rfl rfl rfl siz28 rfl (mem_c rfl (mem_c rfl (mem_c rfl (mem_c rfl (mem_c rfl mem_n))))) rfl (by simp)) ?_
      rintro _ _ rfl
      refine t_as rfl rfl ?_
      refine t_ne ?_
      refine c_ret ?_
      refine x_then_ret ?_
      obtain ⟨rfl, rfl, rfl, rfl, rfl, rfl⟩ := some6 hm
      exact retM (rs := [.cell 2 28, .tmp 3]) [.agg #[.slice none 0 0, .slice none 0 0, .slice none 0 0, .slice none 0 0, .slice none 0 0], .int .i64 (x151)] (hle97.trans hle126) (by decide) rfl ⟨⟨_, rfl, fun w ho => cell_agg (vs := [_, _, _, _, _]) 0 5 agg28 rfl rfl rfl w ho⟩, ⟨rfl, trivial⟩⟩ rfl (.cons _ (.cons _ (sub_skip hs100 (.refl _)))) ⟨none, 0, none, 0, none, 0, none, 0, none, 0, rfl, rfl, FZ.nil, ⟨fun _ => rfl, fun _ => rfl⟩, FZ.nil, ⟨fun _ => rfl, fun _ => rfl⟩, FZ.nil, ⟨fun _ => rfl, fun _ => rfl⟩, FZ.nil, ⟨fun _ => rfl, fun _ => rfl⟩, FZ.nil, ⟨fun _ => rfl, fun _ => rfl⟩⟩
     ·
      rw [if_neg (of_decide_eq_false hc153)] at hm
      refine c_skip ?_
      refine x_then_normal ?_
      refine c_sr ?_
      refine t_st rfl (st_loadD (vs := [_, _, _, _, _]) 1 5 rfl agg28 rfl rfl rfl) ?_
      refine t_do rfl (u_storeN (vs := [_, _, _, _, _]) 0 5 rfl rfl rfl siz28 rfl (mem_c rfl (mem_c rfl (mem_c rfl (mem_c rfl (mem_c rfl mem_n))))) rfl (by simp)) ?_
      rintro _ _ rfl
      refine t_as rfl rfl ?_
      refine t_ne ?_
      refine c_ret ?_
      obtain ⟨rfl, rfl, rfl, rfl, rfl, rfl⟩ := some6 hm
      exact retM (rs := [.cell 2 28, .tmp 3]) [.agg #[.slice none 0 0, .slice none 0 0, .slice none 0 0, .slice none 0 0, .slice none 0 0], .int .i64 (0)] (hle97.trans hle126) (by decide) rfl ⟨⟨_, rfl, fun w ho => cell_agg (vs := [_, _, _, _, _]) 0 5 agg28 rfl rfl rfl w ho⟩, ⟨rfl, trivial⟩⟩ rfl (.cons _ (.cons _ (sub_skip hs100 (.refl _)))) ⟨none, 0, none, 0, none, 0, none, 0, none, 0, rfl, rfl, FZ.nil, ⟨fun _ => rfl, fun _ => rfl⟩, FZ.nil, ⟨fun _ => rfl, fun _ => rfl⟩, FZ.nil, ⟨fun _ => rfl, fun _ => rfl⟩, FZ.nil, ⟨fun _ => rfl, fun _ => rfl⟩, FZ.nil, ⟨fun _ => rfl, fun _ => rfl⟩⟩

set_option maxRecDepth 20000 in
theorem cFishkeep1AwakeLine (b : Base) (R : Hp) (x31 : Bool) (hm : mFishkeep1AwakeLine = some x31) :
    CallsG Tryz.prog 5 [] b (R) (fun v b' hp' => .bool (x31) = v ∧ R = hp') := by
  refine fn_enterG 9 Tryz.func5 rfl Tryz.ntmps5 rfl ?_
  unfold mFishkeep1AwakeLine at hm
  refine c_sr ?_
  refine t_as rfl rfl ?_
  refine t_ne ?_
  refine c_sr ?_
  obtain ⟨⟨l32, l33, l34, l35, l36, x37⟩, hcl38, hm⟩ := bindS hm
  have hm := (unc6E hm)
  refine t_callG _ rfl call13 rfl (cLineRead _ _ (ByteArray.mk #[120]) l32 l33 l34 l35 l36 x37 hcl38) ?_
  rintro _ b39 _ hle40 ⟨A41, c42, A43, c44, A45, c46, A47, c48, A49, c50, rfl, rfl, h51, h52, h53, h54, h55, h56, h57, h58, h59, h60⟩
  refine t_mv rfl rfl ?_
  refine t_st rfl (st_extract rfl rfl) ?_
  refine t_st rfl (st_extract rfl rfl) ?_
  refine t_do rfl (u_alloc [.slice none 0 0, .slice none 0 0, .slice none 0 0, .slice none 0 0, .slice none 0 0] zero28 rfl) ?_
  rintro _ _ ⟨g61, rfl, rfl⟩
  refine t_do rfl (u_storeN (vs := [_, _, _, _, _]) 0 5 rfl rfl rfl siz28 rfl (mem_c rfl (mem_c rfl (mem_c rfl (mem_c rfl (mem_c rfl mem_n))))) rfl (by simp)) ?_
  rintro _ _ rfl
  refine t_as rfl rfl ?_
  refine t_ne ?_
  refine c_sr ?_
  refine t_mv rfl rfl ?_
  refine t_st rfl (st_neq rfl rfl) ?_
  refine t_as rfl rfl ?_
  refine t_ne ?_
  refine c_ret ?_
  obtain rfl := some1 hm
  exact retM (rs := [.tmp 0]) [.bool (decide (x37 ≠ 0))] hle40 (by decide) rfl ⟨rfl, trivial⟩ rfl (.cons _ (.refl _)) ⟨rfl, rfl⟩

set_option maxRecDepth 20000 in
theorem cLineOuts (b : Base) (R : Hp) (x1 : Int) (x2 : Int) (l38 : (List Int)) (hm : mLineOuts x1 x2 = some l38) :
    CallsG Tryz.prog 61 [.int .i64 (x1), .int .i64 (x2)] b (R) (fun v b' hp' => ∃ (A35 : Option Addr), ∃ (c36 : Nat), .slice A35 (l38).length c36 = v ∧ R = hp' ∧ FZ (RT.int .i64) b'.w A35 c36 l38) := by
  refine fn_enterG 20 Tryz.func61 rfl Tryz.ntmps61 rfl ?_
  unfold mLineOuts at hm
  refine c_sr ?_
  refine t_as rfl rfl ?_
  refine t_ne ?_
  refine c_seq ?_
  refine c_block ?_
  obtain ⟨x42, hj43, hk43⟩ := bindS hm
  refine c_join (fun b40 e' hp' => [(0, .int .i64 (x1)), (1, .int .i64 (x2)), (5, .bool (x42))] = e' ∧ R = hp' ∧ b.Le b40) ?_ ?_
  ·
   have hm := hj43
   refine c_region ?_
   refine t_mv rfl rfl ?_
   refine t_bool rfl (st_eql rfl rfl) (fun hc44 => ?_) (fun hc44 => ?_)
   ·
    rw [if_pos hc44] at hm
    refine t_mv rfl rfl ?_
    refine t_yes 8 rfl rfl rfl ?_
    refine t_mv rfl rfl ?_
    refine t_yes 8 rfl rfl rfl ?_
    refine t_st rfl (st_eql rfl rfl) ?_
    refine t_st rfl (st_pick_t rfl rfl) ?_
    refine t_as rfl rfl ?_
    refine t_nil ?_
    obtain rfl := some1 hm
    exact x_join (e' := [(0, .int .i64 (x1)), (1, .int .i64 (x2)), (5, .bool (decide (x2 = 0)))]) ⟨rfl, rfl, rfl, trivial⟩ (.refl _) ⟨rfl, rfl, (Base.Le.refl _)⟩
   ·
    rw [if_neg hc44] at hm
    refine t_mv rfl rfl ?_
    refine t_no 8 rfl rfl rfl rfl rfl ?_
    refine t_no 8 rfl rfl rfl rfl rfl ?_
    refine t_st rfl (st_pick_f rfl rfl) ?_
    refine t_as rfl rfl ?_
    refine t_nil ?_
    obtain rfl := some1 hm
    exact x_join (e' := [(0, .int .i64 (x1)), (1, .int .i64 (x2)), (5, .bool (false))]) ⟨rfl, rfl, rfl, trivial⟩ (.refl _) ⟨rfl, rfl, (Base.Le.refl _)⟩
  ·
   rintro b40 _ _ ⟨rfl, rfl, hle41⟩
   have hm := hk43
   refine c_cond _ rfl (fun hc45 => ?_) (fun hc45 => ?_)
   ·
    rw [if_pos hc45] at hm
    refine c_sr ?_
    refine t_do rfl (u_bslice (el := 3) [(0, .int .i64 (1)), (1, .int .i64 (2))] [.int .i64 (1), .int .i64 (2)] rfl (fun _ => by kernel_rfl)) ?_
    rintro _ _ ⟨g46, rfl, rfl⟩
    refine t_as rfl rfl ?_
    refine t_ne ?_
    refine c_ret ?_
    refine x_block_ret ?_
    refine x_then_ret ?_
    refine x_seg 0 [] R rfl rfl ?_
    have h48 : OS 3 (OT.fr (RT.int .i64)) b40.w (.slice (some ⟨g46, 0, none⟩) 2 2) [1, 2] [(g46, Cl 3 [.int .i64 (1), .int .i64 (2)])] := OS.lit [[.int .i64 (1)], [.int .i64 (2)]] rfl ⟨rfl, ⟨rfl, trivial⟩⟩ rfl (by decide)
    have hnz49 : (((some ⟨g46, 0, none⟩) : Option Addr) = none ↔ [1, 2] = []) := ⟨nofun, nofun⟩
    refine x_frz [] [(g46, Cl 3 [.int .i64 (1), .int .i64 (2)])] R rfl ?_
    intro b50 hle51 hz52
    have h53 := OS.frz (l := [1, 2]) h48 hle51.cells hz52
    obtain rfl := some1 hm
    exact retM (rs := [.tmp 4]) [.slice (some ⟨g46, 0, none⟩) ([1, 2]).length 2] (hle41.trans hle51) (by decide) rfl ⟨rfl, trivial⟩ rfl (.refl _) ⟨(some ⟨g46, 0, none⟩), 2, rfl, rfl, h53⟩
   ·
    rw [if_neg (fun hh => Bool.noConfusion (hh.symm.trans hc45))] at hm
    refine c_sr ?_
    refine t_mv rfl rfl ?_
    refine t_st rfl (st_eql rfl rfl) ?_
    refine t_as rfl rfl ?_
    refine t_ne ?_
    refine c_cond _ rfl (fun hc54 => ?_) (fun hc54 => ?_)
    ·
     rw [if_pos (of_decide_eq_true hc54)] at hm
     refine c_sr ?_
     refine t_do rfl (u_bslice (el := 3) [(0, .int .i64 (0))] [.int .i64 (0)] rfl (fun _ => by kernel_rfl)) ?_
     rintro _ _ ⟨g55, rfl, rfl⟩
     refine t_as rfl rfl ?_
     refine t_ne ?_
     refine c_ret ?_
     refine x_block_ret ?_
     refine x_then_ret ?_
     refine x_seg 0 [] R rfl rfl ?_
     have h57 : OS 3 (OT.fr (RT.int .i64)) b40.w (.slice (some ⟨g55, 0, none⟩) 1 1) [0] [(g55, Cl 3 [.int .i64 (0)])] := OS.lit [[.int .i64 (0)]] rfl ⟨rfl, trivial⟩ rfl (by decide)
     have hnz58 : (((some ⟨g55, 0, none⟩) : Option Addr) = none ↔ [0] = []) := ⟨nofun, nofun⟩
     refine x_frz [] [(g55, Cl 3 [.int .i64 (0)])] R rfl ?_
     intro b59 hle60 hz61
     have h62 := OS.frz (l := [0]) h57 hle60.cells hz61
     obtain rfl := some1 hm
     exact retM (rs := [.tmp 4]) [.slice (some ⟨g55, 0, none⟩) ([0]).length 1] (hle41.trans hle60) (by decide) rfl ⟨rfl, trivial⟩ rfl (.refl _) ⟨(some ⟨g55, 0, none⟩), 1, rfl, rfl, h62⟩
    ·
     rw [if_neg (of_decide_eq_false hc54)] at hm
     refine c_skip ?_
     refine x_block_normal ?_
     refine x_then_normal ?_
     refine c_sr ?_
     refine t_mv rfl rfl ?_
     refine t_st rfl (st_xor rfl rfl) ?_
     refine t_do rfl (u_bslice (el := 3) [(0, .int .i64 (xorI .i64 x2 1))] [.int .i64 (xorI .i64 x2 1)] rfl (fun _ => by kernel_rfl)) ?_
     rintro _ _ ⟨g63, rfl, rfl⟩
     refine t_as rfl rfl ?_
     refine t_ne ?_
     refine c_ret ?_
     refine x_seg 0 [] R rfl rfl ?_
     have h65 : OS 3 (OT.fr (RT.int .i64)) b40.w (.slice (some ⟨g63, 0, none⟩) 1 1) [xorI .i64 x2 1] [(g63, Cl 3 [.int .i64 (xorI .i64 x2 1)])] := OS.lit [[.int .i64 (xorI .i64 x2 1)]] rfl ⟨rfl, trivial⟩ rfl (by decide)
     have hnz66 : (((some ⟨g63, 0, none⟩) : Option Addr) = none ↔ [xorI .i64 x2 1] = []) := ⟨nofun, nofun⟩
     refine x_frz [] [(g63, Cl 3 [.int .i64 (xorI .i64 x2 1)])] R rfl ?_
     intro b67 hle68 hz69
     have h70 := OS.frz (l := [xorI .i64 x2 1]) h65 hle68.cells hz69
     obtain rfl := some1 hm
     exact retM (rs := [.tmp 4]) [.slice (some ⟨g63, 0, none⟩) ([xorI .i64 x2 1]).length 1] (hle41.trans hle68) (by decide) rfl ⟨rfl, trivial⟩ rfl (.refl _) ⟨(some ⟨g63, 0, none⟩), 1, rfl, rfl, h70⟩

set_option maxRecDepth 20000 in
theorem cLineWalk (b : Base) (R : Hp) (s1 : ApiNet) (s17 : LineEnd) (A2 : Option Addr) (c3 : Nat) (A5 : Option Addr) (c6 : Nat) (A8 : Option Addr) (c9 : Nat) (A11 : Option Addr) (c12 : Nat) (A14 : Option Addr) (c15 : Nat) (h4 : FZ RT.str b.w A2 c3 s1.Stations) (h7 : FZ rApiSection b.w A5 c6 s1.Sections) (h10 : FZ rApiLink b.w A8 c9 s1.Links) (h13 : FZ rApiSignal b.w A11 c12 s1.Signals) (h16 : FZ rApiGate b.w A14 c15 s1.Gates) (l18 : (List ApiStep)) (hm : mLineWalk s1 s17 = some l18) :
    CallsG Tryz.prog 56 [.agg #[.slice A2 (s1.Stations).length c3, .slice A5 (s1.Sections).length c6, .slice A8 (s1.Links).length c9, .slice A11 (s1.Signals).length c12, .slice A14 (s1.Gates).length c15], .agg #[.int .i64 (s17.section_), .int .i64 (s17.end_)]] b (R) (fun v b' hp' => ∃ (v19 : Value), v19 = v ∧ R = hp' ∧ IterV Tryz.prog b' v19 (l18.map (fun x : ApiStep => (.agg #[.int .i64 x.Section, .int .i64 x.In, .int .i64 x.Out] : Value)))) := by
  unfold mLineWalk at hm
  exact walk_of (fun b R => cLineJoined b R) (fun b R => cLineOuts b R) h4 h7 h10 h13 h16 hm

set_option maxRecDepth 20000 in
theorem cLineStands_1 (b : Base) (R : Hp) (s2 : ApiStep) (x3 : Int) (g1 : Nat) (x5 : Bool) (hm : mLineStands_1 s2 x3 = some x5) :
    CallsG Tryz.prog 65 [.agg #[.int .i64 (s2.Section), .int .i64 (s2.In), .int .i64 (s2.Out)], .pointer (some ⟨g1, 0, none⟩)] b ((g1, Cl 3 [.int .i64 (x3)]) :: R) (fun v b' hp' => .bool (x5) = v ∧ (g1, Cl 3 [.int .i64 (x3)]) :: R = hp') := by
  refine fn_enterG 8 Tryz.func65 rfl Tryz.ntmps65 rfl ?_
  unfold mLineStands_1 at hm
  refine c_sr ?_
  refine t_do rfl (u_box _ rfl rfl) ?_
  rintro _ _ ⟨g6, rfl, rfl⟩
  refine t_as rfl rfl ?_
  refine t_ne ?_
  refine c_sr ?_
  refine t_st rfl (st_field rfl fld56_0) ?_
  refine t_st rfl (st_load 0 rfl one3 rfl rfl) ?_
  refine t_st rfl (st_load 1 rfl one3 rfl rfl) ?_
  refine t_st rfl (st_eql rfl rfl) ?_
  refine t_as rfl rfl ?_
  refine t_ne ?_
  refine c_ret ?_
  obtain rfl := some1 hm
  refine x_pullb 1 rfl ?_
  exact retM (rs := [.tmp 3]) [.bool (decide (s2.Section = x3))] (Base.Le.refl _) (by decide) rfl ⟨rfl, trivial⟩ rfl (.cons_cons _ (.cons _ (.refl _))) ⟨rfl, rfl⟩

set_option maxRecDepth 20000 in
theorem cSlicesIndexFunc (b : Base) (R : Hp) (l5 : (List ApiStep)) (x6 : Int) (g1 : Nat) (A2 : Option Addr) (c3 : Nat) (h4 : FZ rApiStep b.w A2 c3 l5) (x47 : Int) (hm : mSlicesIndexFunc l5 x6 = some x47) :
    CallsG Tryz.prog 77 [.slice A2 (l5).length c3, .func (.func 65) #[] #[.pointer (some ⟨g1, 0, none⟩)]] b ((g1, Cl 3 [.int .i64 (x6)]) :: R) (fun v b' hp' => .int .i64 (x47) = v ∧ (g1, Cl 3 [.int .i64 (x6)]) :: R = hp') := by
  refine fn_enterG 19 Tryz.func77 rfl Tryz.ntmps77 rfl ?_
  unfold mSlicesIndexFunc at hm
  refine c_sr ?_
  refine t_as rfl rfl ?_
  refine t_ne ?_
  refine c_seq ?_
  refine c_sr ?_
  refine t_mv rfl rfl ?_
  refine t_st rfl (st_len rfl sl52) ?_
  refine t_mv rfl rfl ?_
  refine t_ne ?_
  refine c_block ?_
  have hb49 : l5.length ≤ 9223372036854775807 := (FZ.bd h4)
  obtain ⟨t68, hl69, hk70⟩ := bindS hm
  refine c_forM (fun k67 => fun _ => fun b65 e' hp' => [(0, .slice A2 (l5).length c3), (1, .func (.func 65) #[] #[.pointer (some ⟨g1, 0, none⟩)]), (7, .int .i64 ((l5.length : Int))), (8, .int .i64 ((k67 : Int)))] = e' ∧ (g1, Cl 3 [.int .i64 (x6)]) :: R = hp' ∧ b.Le b65) hl69 (e' := [(0, .slice A2 (l5).length c3), (1, .func (.func 65) #[] #[.pointer (some ⟨g1, 0, none⟩)]), (7, .int .i64 ((l5.length : Int))), (8, .int .i64 0)]) ⟨rfl, rfl, rfl, rfl, trivial⟩ (.refl _) ⟨rfl, rfl, (Base.Le.refl _)⟩ ?_ ?_
  ·
   rintro k67 _ b65 _ _ oL48 hknL48 ⟨rfl, rfl, hle66⟩ hstepL48 houtL48
   unfold mSlicesIndexFunc_L48 at hstepL48
   have hm := hstepL48
   refine c_sr ?_
   refine t_st rfl (st_lss_t rfl rfl (by omega)) ?_
   refine t_ne ?_
   refine c_seq ?_
   refine c_cond_t rfl ?_
   refine c_skip ?_
   refine x_then_normal ?_
   refine c_seq ?_
   refine c_block ?_
   refine c_sr ?_
   refine t_mv rfl rfl ?_
   refine t_as rfl rfl ?_
   refine t_ne ?_
   refine c_sr ?_
   refine t_mv rfl rfl ?_
   refine t_mv rfl rfl ?_
   refine t_mv rfl rfl ?_
   obtain ⟨x71, h72, hm⟩ := bindS hm
   obtain ⟨j73, hj74, hx75⟩ := idx_some h72
   obtain ⟨cs76, hr77, hcs78, hA79, hlt80⟩ := FZ.get (sz := 3) rfl (by decide) (h4.le hle66) hx75
   obtain ⟨_, _, rfl, rfl, ⟨_, _, rfl, rfl, rfl⟩⟩ := hr77
   refine t_st rfl (st_index_old j73 rfl rfl hj74 hlt80 hA79 sl52) ?_
   refine t_st rfl (st_loadN_old (vs := [.int .i64 (x71.Section), .int .i64 (x71.In), .int .i64 (x71.Out)]) 3 rfl agg56 hA79 rfl (fun j u hu => hcs78 j u hu)) ?_
   obtain ⟨x81, hcl82, hm⟩ := bindS hm
   refine t_callvG #[] #[.pointer (some ⟨g1, 0, none⟩)] [.agg #[.int .i64 (x71.Section), .int .i64 (x71.In), .int .i64 (x71.Out)]] rfl rfl call65 rfl (cLineStands_1 _ _ x71 x6 g1 x81 hcl82) ?_
   rintro _ b83 _ hle84 ⟨rfl, rfl⟩
   refine t_ne ?_
   refine c_cond _ rfl (fun hc85 => ?_) (fun hc85 => ?_)
   ·
    rw [if_pos hc85] at hm
    refine c_sr ?_
    refine t_mv rfl rfl ?_
    refine t_as rfl rfl ?_
    refine t_ne ?_
    refine c_ret ?_
    refine x_block_ret ?_
    refine x_then_ret ?_
    refine x_then_ret ?_
    refine x_block_ret ?_
    refine x_then_ret ?_
    have hq86 := houtL48 _ (Option.some.inj hm).symm
    rw [hq86] at hk70
    have hm := elimR hk70
    obtain rfl := some1 hm
    exact retM (rs := [.tmp 4]) [.int .i64 ((k67 : Int))] (hle66.trans hle84) (by decide) rfl ⟨rfl, trivial⟩ rfl (.refl _) ⟨rfl, rfl⟩
   ·
    rw [if_neg (fun hh => Bool.noConfusion (hh.symm.trans hc85))] at hm
    refine c_skip ?_
    refine x_block_normal ?_
    refine x_then_normal ?_
    refine c_region ?_
    refine t_st rfl (st_add rfl rfl (by omega)) ?_
    refine t_mv rfl rfl ?_
    refine t_nil ?_
    exact x_againM () (Option.some.inj hm).symm (e' := [(0, .slice A2 (l5).length c3), (1, .func (.func 65) #[] #[.pointer (some ⟨g1, 0, none⟩)]), (7, .int .i64 ((l5.length : Int))), (8, .int .i64 ((k67 : Int) + 1))]) ⟨rfl, rfl, rfl, rfl, trivial⟩ (.refl _) ⟨rfl, rfl, ((hle66.trans hle84))⟩
  ·
   rintro _ b65 _ _ ⟨rfl, rfl, hle66⟩ hq87
   rw [hq87] at hk70
   have hm := elimL hk70
   refine c_sr ?_
   refine t_st rfl (st_lss_f rfl rfl (by omega)) ?_
   refine t_ne ?_
   refine c_seq ?_
   refine c_cond_f rfl ?_
   refine c_exit ?_
   refine x_then_exit ?_
   refine x_then_exit ?_
   refine x_block_out ?_
   refine x_then_normal ?_
   refine c_sr ?_
   refine t_as rfl rfl ?_
   refine t_ne ?_
   refine c_ret ?_
   obtain rfl := some1 hm
   exact retM (rs := [.tmp 4]) [.int .i64 ((-1))] hle66 (by decide) rfl ⟨rfl, trivial⟩ rfl (.refl _) ⟨rfl, rfl⟩

set_option maxRecDepth 20000 in
theorem cSlicesContainsFunc (b : Base) (R : Hp) (l5 : (List ApiStep)) (x6 : Int) (g1 : Nat) (A2 : Option Addr) (c3 : Nat) (h4 : FZ rApiStep b.w A2 c3 l5) (x11 : Bool) (hm : mSlicesContainsFunc l5 x6 = some x11) :
    CallsG Tryz.prog 64 [.slice A2 (l5).length c3, .func (.func 65) #[] #[.pointer (some ⟨g1, 0, none⟩)]] b ((g1, Cl 3 [.int .i64 (x6)]) :: R) (fun v b' hp' => .bool (x11) = v ∧ (g1, Cl 3 [.int .i64 (x6)]) :: R = hp') := by
  refine fn_enterG 9 Tryz.func64 rfl Tryz.ntmps64 rfl ?_
  unfold mSlicesContainsFunc at hm
  refine c_sr ?_
  refine t_as rfl rfl ?_
  refine t_ne ?_
  refine c_sr ?_
  refine t_mv rfl rfl ?_
  refine t_mv rfl rfl ?_
  obtain ⟨x12, hcl13, hm⟩ := bindS hm
  refine t_callG _ rfl call77 rfl (cSlicesIndexFunc _ _ l5 x6 g1 A2 c3 h4 x12 hcl13) ?_
  rintro _ b14 _ hle15 ⟨rfl, rfl⟩
  refine t_st rfl (st_geq rfl rfl) ?_
  refine t_as rfl rfl ?_
  refine t_ne ?_
  refine c_ret ?_
  obtain rfl := some1 hm
  exact retM (rs := [.tmp 4]) [.bool (decide (0 ≤ x12))] hle15 (by decide) rfl ⟨rfl, trivial⟩ rfl (.refl _) ⟨rfl, rfl⟩

set_option maxRecDepth 20000 in
theorem cLineStands (b : Base) (R : Hp) (l4 : (List ApiStep)) (x5 : Int) (A1 : Option Addr) (c2 : Nat) (h3 : FZ rApiStep b.w A1 c2 l4) (x11 : Bool) (hm : mLineStands l4 x5 = some x11) :
    CallsG Tryz.prog 40 [.slice A1 (l4).length c2, .int .i64 (x5)] b (R) (fun v b' hp' => .bool (x11) = v ∧ R = hp') := by
  refine fn_enterG 8 Tryz.func40 rfl Tryz.ntmps40 rfl ?_
  unfold mLineStands at hm
  refine c_sr ?_
  refine t_do rfl (u_box _ rfl rfl) ?_
  rintro _ _ ⟨g12, rfl, rfl⟩
  refine t_as rfl rfl ?_
  refine t_ne ?_
  refine c_sr ?_
  refine t_mv rfl rfl ?_
  refine t_st rfl (st_func _ _ rfl rfl) ?_
  obtain ⟨x13, hcl14, hm⟩ := bindS hm
  refine t_callG _ rfl call64 rfl (cSlicesContainsFunc _ _ l4 x5 g12 A1 c2 h3 x13 hcl14) ?_
  rintro _ b15 _ hle16 ⟨rfl, rfl⟩
  refine t_as rfl rfl ?_
  refine t_ne ?_
  refine c_ret ?_
  obtain rfl := some1 hm
  exact retM (rs := [.tmp 4]) [.bool (x13)] hle16 (by decide) rfl ⟨rfl, trivial⟩ rfl (.cons _ (.refl _)) ⟨rfl, rfl⟩

set_option maxRecDepth 20000 in
theorem cLineFinderCount (b : Base) (R : Hp) (l10 : (List ByteArray)) (l14 : (List ApiSection)) (l18 : (List ApiLink)) (l22 : (List ApiSignal)) (l26 : (List ApiGate)) (x27 : Int) (x28 : Bool) (l29 : (List ApiRoute)) (g6 : Nat) (A7 : Option Addr) (c8 : Nat) (A11 : Option Addr) (c12 : Nat) (A15 : Option Addr) (c16 : Nat) (A19 : Option Addr) (c20 : Nat) (A23 : Option Addr) (c24 : Nat) (A3 : Option Addr) (c4 : Nat) (hs2 : Hp) (h9 : FZ RT.str b.w A7 c8 l10) (h13 : FZ rApiSection b.w A11 c12 l14) (h17 : FZ rApiLink b.w A15 c16 l18) (h21 : FZ rApiSignal b.w A19 c20 l22) (h25 : FZ rApiGate b.w A23 c24 l26) (h5 : OS 54 (OT.fr rApiRoute) b.w (.slice A3 l29.length c4) l29 hs2) (hnz30 : (A3 = none ↔ l29 = [])) (x33 : Int) (x34 : Bool) (hm : mLineFinderCount l10 l14 l18 l22 l26 x27 x28 l29 = some (x33, x34)) :
    CallsG Tryz.prog 69 [.pointer (some ⟨g6, 0, none⟩)] b ((g6, Cl 106 [.slice A7 (l10).length c8, .slice A11 (l14).length c12, .slice A15 (l18).length c16, .slice A19 (l22).length c20, .slice A23 (l26).length c24, .slice A3 (l29).length c4, .int .i64 (x27), .bool (x28)]) :: (hs2 ++ R)) (fun v b' hp' => .tuple #[] = v ∧ (g6, Cl 106 [.slice A7 (l10).length c8, .slice A11 (l14).length c12, .slice A15 (l18).length c16, .slice A19 (l22).length c20, .slice A23 (l26).length c24, .slice A3 (l29).length c4, .int .i64 (x33), .bool (x34)]) :: (hs2 ++ R) = hp') := by
  refine fn_enterG 23 Tryz.func69 rfl Tryz.ntmps69 rfl ?_
  unfold mLineFinderCount at hm
  refine c_sr ?_
  refine t_mv rfl rfl ?_
  refine t_st rfl (st_nil rfl) ?_
  refine t_st rfl (st_field rfl fld106_2) ?_
  refine t_st rfl (st_load 0 rfl one3 rfl rfl) ?_
  obtain ⟨_, h35, hm⟩ := bindS hm
  have h35 := (chk_some h35).2
  refine t_st rfl (st_add rfl rfl h35) ?_
  refine t_st rfl (st_nil rfl) ?_
  refine t_st rfl (st_field rfl fld106_2) ?_
  refine t_do rfl (u_store 0 rfl rfl siz3 rfl rfl (by simp)) ?_
  rintro _ _ rfl
  refine t_ne ?_
  refine c_region ?_
  refine t_mv rfl rfl ?_
  refine t_mv rfl rfl ?_
  refine t_st rfl (st_nil rfl) ?_
  refine t_st rfl (st_field rfl fld106_3) ?_
  refine t_st rfl (st_load 0 rfl one4 rfl rfl) ?_
  rcases Bool.eq_false_or_eq_true x28 with hc36 | hc36
  ·
   rw [if_pos hc36] at hm
   refine t_resp 13 rfl (v' := .bool true) (by rw [hc36] <;> rfl) ?_
   refine t_mv rfl rfl ?_
   refine t_no 14 rfl rfl rfl rfl rfl ?_
   refine t_no 14 rfl rfl rfl rfl rfl ?_
   refine t_no 14 rfl rfl rfl rfl rfl ?_
   refine t_no 14 rfl rfl rfl rfl rfl ?_
   refine t_no 14 rfl rfl rfl rfl rfl ?_
   refine t_st rfl (st_pick_t rfl rfl) ?_
   refine t_st rfl (st_nil rfl) ?_
   refine t_st rfl (st_field rfl fld106_3) ?_
   refine t_do rfl (u_store 0 rfl rfl siz4 rfl rfl (by simp)) ?_
   rintro _ _ rfl
   refine t_nil ?_
   obtain ⟨rfl, rfl⟩ := some2 hm
   exact endM (Base.Le.refl _) rfl (.refl _) ⟨rfl, rfl⟩
  ·
   rw [if_neg (fun hh => Bool.noConfusion (hh.symm.trans hc36))] at hm
   refine t_resp 13 rfl (v' := .bool false) (by rw [hc36] <;> rfl) ?_
   refine t_mv rfl rfl ?_
   refine t_yes 14 rfl rfl rfl ?_
   refine t_mv rfl rfl ?_
   refine t_yes 14 rfl rfl rfl ?_
   refine t_st rfl (st_nil rfl) ?_
   refine t_yes 14 rfl rfl rfl ?_
   refine t_st rfl (st_field rfl fld106_2) ?_
   refine t_yes 14 rfl rfl rfl ?_
   refine t_st rfl (st_load 0 rfl one3 rfl rfl) ?_
   refine t_yes 14 rfl rfl rfl ?_
   refine t_st rfl (st_gtr rfl rfl) ?_
   refine t_st rfl (st_pick_f rfl rfl) ?_
   refine t_st rfl (st_nil rfl) ?_
   refine t_st rfl (st_field rfl fld106_3) ?_
   refine t_do rfl (u_store 0 rfl rfl siz4 rfl rfl (by simp)) ?_
   rintro _ _ rfl
   refine t_nil ?_
   obtain ⟨rfl, rfl⟩ := some2 hm
   exact endM (Base.Le.refl _) rfl (.refl _) ⟨rfl, rfl⟩

set_option maxRecDepth 20000 in
theorem clSlicesClone (A : Option Addr) (n c : Nat) (xs : List Value) (w : World) (hR : Rd w A xs) (hl : xs.length = n * 3) (hn : n * 24 ≤ 140737488355328 ∧ n ≤ 9223372036854775807) :
    CallsH Tryz.prog 70 [.slice A n c] w [] (fun v hp' => Seg0 56 3 v n xs hp') := by
  refine fn_enter 8 Tryz.func70 rfl Tryz.ntmps70 rfl ?_
  refine c_sr ?_
  refine t_as rfl rfl ?_
  refine t_ne ?_
  refine c_seq ?_
  refine c_sr ?_
  refine t_mv rfl rfl ?_
  refine t_bool rfl (st_eqnil rfl rfl sl52) (fun hc1 => ?_) (fun hc1 => ?_)
  ·
    refine t_ne ?_
    refine c_cond_t rfl ?_
    refine c_sr ?_
    refine t_as rfl rfl ?_
    refine t_ne ?_
    refine c_ret ?_
    refine x_then_ret ?_
    subst hc1
    obtain rfl := hR.none_nil
    obtain rfl : n = 0 := by simp at hl; omega
    refine x_drop (hp' := []) (by repeat (first | exact List.Sublist.refl _ | exact List.nil_sublist _ | exact List.sublist_append_left _ _ | exact List.sublist_append_right _ _ | exact (List.sublist_append_right _ _).trans (List.sublist_append_right _ _) | apply List.Sublist.cons_cons | apply List.Sublist.cons)) ?_
    exact ret1 (Base.Le.refl _) rfl rfl (Seg0.nil)
  ·
    refine t_ne ?_
    refine c_cond_f rfl ?_
    refine c_skip ?_
    refine x_then_normal ?_
    refine c_sr ?_
    refine t_do rfl (u_bslice (el := 56) [] [] rfl (fun _ => by kernel_rfl)) ?_
    rintro _ _ ⟨g0, rfl, rfl⟩
    refine t_mv rfl rfl ?_
    refine t_do rfl (u_app0 xs sl52 inf56 rfl (by decide) rfl rfl hl (fun w ho => hR.old ho) hn.2 hn.1) ?_
    rintro _ _ ⟨hs, rfl, hseg⟩
    refine t_as rfl rfl ?_
    refine t_ne ?_
    refine c_ret ?_
    refine x_drop (hp' := hs) (by repeat (first | exact List.Sublist.refl _ | exact List.nil_sublist _ | exact List.sublist_append_left _ _ | exact List.sublist_append_right _ _ | exact (List.sublist_append_right _ _).trans (List.sublist_append_right _ _) | apply List.Sublist.cons_cons | apply List.Sublist.cons)) ?_
    exact ret1 (Base.Le.refl _) rfl rfl hseg

set_option maxRecDepth 20000 in
theorem cSlicesClone (b : Base) (R : Hp) (l4 : (List ApiStep)) (A1 : Option Addr) (c2 : Nat) (h3 : FZ rApiStep b.w A1 c2 l4) (l10 : (List ApiStep)) (hm : mSlicesClone l4 = some l10) :
    CallsG Tryz.prog 70 [.slice A1 (l4).length c2] b (R) (fun v b' hp' => ∃ (A7 : Option Addr), ∃ (c8 : Nat), ∃ (hs6 : Hp), .slice A7 (l10).length c8 = v ∧ (hs6 ++ R) = hp' ∧ OS 56 (OT.fr rApiStep) b'.w (.slice A7 l10.length c8) l10 hs6) := by
  unfold mSlicesClone at hm
  obtain ⟨_, hroom, hm⟩ := bindS hm
  have hroom := room_some hroom
  obtain rfl := some1 hm
  exact clone_of (r := rApiStep) (sz := 3) (by_ := 24) rfl (by decide) clSlicesClone h3 hroom

set_option maxRecDepth 20000 in
theorem cSlicesIndex_2 (b : Base) (R : Hp) (l4 : (List ApiSignal)) (s5 : ApiSignal) (A1 : Option Addr) (c2 : Nat) (h3 : FZ rApiSignal b.w A1 c2 l4) (x59 : Int) (hm : mSlicesIndex_2 l4 s5 = some x59) :
    CallsG Tryz.prog 76 [.slice A1 (l4).length c2, .agg #[.int .i64 (s5.Section), .int .i64 (s5.End)]] b (R) (fun v b' hp' => .int .i64 (x59) = v ∧ R = hp') := by
  refine fn_enterG 19 Tryz.func76 rfl Tryz.ntmps76 rfl ?_
  unfold mSlicesIndex_2 at hm
  refine c_sr ?_
  refine t_do rfl (u_box _ rfl rfl) ?_
  rintro _ _ ⟨g60, rfl, rfl⟩
  refine t_as rfl rfl ?_
  refine t_ne ?_
  refine c_seq ?_
  refine c_sr ?_
  refine t_mv rfl rfl ?_
  refine t_st rfl (st_len rfl sl25) ?_
  refine t_mv rfl rfl ?_
  refine t_ne ?_
  refine c_block ?_
  have hb62 : l4.length ≤ 9223372036854775807 := (FZ.bd h3)
  obtain ⟨t87, hl88, hk89⟩ := bindS hm
  refine c_forM (fun k86 => fun _ => fun b84 e' hp' => [(0, .slice A1 (l4).length c2), (3, .pointer (some ⟨g60, 0, none⟩)), (7, .int .i64 ((l4.length : Int))), (8, .int .i64 ((k86 : Int)))] = e' ∧ (g60, Cl 96 [.int .i64 (s5.Section), .int .i64 (s5.End)]) :: R = hp' ∧ b.Le b84) hl88 (e' := [(0, .slice A1 (l4).length c2), (3, .pointer (some ⟨g60, 0, none⟩)), (7, .int .i64 ((l4.length : Int))), (8, .int .i64 0)]) ⟨rfl, rfl, rfl, rfl, trivial⟩ (.refl _) ⟨rfl, rfl, (Base.Le.refl _)⟩ ?_ ?_
  ·
   rintro k86 _ b84 _ _ oL61 hknL61 ⟨rfl, rfl, hle85⟩ hstepL61 houtL61
   unfold mSlicesIndex_2_L61 at hstepL61
   have hm := hstepL61
   refine c_sr ?_
   refine t_st rfl (st_lss_t rfl rfl (by omega)) ?_
   refine t_ne ?_
   refine c_seq ?_
   refine c_cond_t rfl ?_
   refine c_skip ?_
   refine x_then_normal ?_
   refine c_seq ?_
   refine c_block ?_
   refine c_sr ?_
   refine t_mv rfl rfl ?_
   refine t_as rfl rfl ?_
   refine t_ne ?_
   refine c_seq ?_
   obtain ⟨x100, h101, hm⟩ := bindS hm
   refine D_drawI mixed (.refl _) ?_
   refine E_st 0 rfl (st_loadD (vs := [_, _]) 0 2 rfl agg96 rfl rfl rfl) ?_
   refine E_st 1 rfl (st_move rfl) ?_
   refine E_st 2 rfl (st_move rfl) ?_
   obtain ⟨j102, hj103, hx104⟩ := idx_some h101
   obtain ⟨cs105, hr106, hcs107, hA108, hlt109⟩ := FZ.get (sz := 2) rfl (by decide) (h3.le hle85) hx104
   obtain ⟨_, _, rfl, rfl, rfl⟩ := hr106
   refine E_st 3 rfl (st_index_old j102 rfl rfl hj103 hlt109 hA108 sl25) ?_
   refine E_st 4 rfl (st_loadN_old (vs := [.int .i64 (x100.Section), .int .i64 (x100.End)]) 2 rfl agg96 hA108 rfl (fun j u hu => hcs107 j u hu)) ?_
   refine E_st 5 rfl (st_eqlA (xs := [.int .i64 (s5.Section), .int .i64 (s5.End)]) (ys := [.int .i64 (x100.Section), .int .i64 (x100.End)]) (p := s5.Section = x100.Section ∧ s5.End = x100.End) rfl rfl eqt96 ⟨⟨_, rfl⟩, ⟨⟨_, rfl⟩, trivial⟩⟩ ⟨⟨_, rfl⟩, ⟨⟨_, rfl⟩, trivial⟩⟩ (by simp [eqCells, eqCell, Bool.decide_and, beq_dec])) ?_
   refine E_out ?_
   refine D_done (by kernel_rfl) ?_
   refine x_then_normal ?_
   refine c_cond _ rfl (fun hc110 => ?_) (fun hc110 => ?_)
   ·
    rw [if_pos (of_decide_eq_true hc110)] at hm
    refine c_sr ?_
    refine t_mv rfl rfl ?_
    refine t_as rfl rfl ?_
    refine t_ne ?_
    refine c_ret ?_
    refine x_block_ret ?_
    refine x_then_ret ?_
    refine x_then_ret ?_
    refine x_block_ret ?_
    refine x_then_ret ?_
    have hq111 := houtL61 _ (Option.some.inj hm).symm
    rw [hq111] at hk89
    have hm := elimR hk89
    obtain rfl := some1 hm
    exact retM (rs := [.tmp 4]) [.int .i64 ((k86 : Int))] hle85 (by decide) rfl ⟨rfl, trivial⟩ rfl (.cons _ (.refl _)) ⟨rfl, rfl⟩
   ·
    rw [if_neg (of_decide_eq_false hc110)] at hm
    refine c_skip ?_
    refine x_block_normal ?_
    refine x_then_normal ?_
    refine c_region ?_
    refine t_st rfl (st_add rfl rfl (by omega)) ?_
    refine t_mv rfl rfl ?_
    refine t_nil ?_
    exact x_againM () (Option.some.inj hm).symm (e' := [(0, .slice A1 (l4).length c2), (3, .pointer (some ⟨g60, 0, none⟩)), (7, .int .i64 ((l4.length : Int))), (8, .int .i64 ((k86 : Int) + 1))]) ⟨rfl, rfl, rfl, rfl, trivial⟩ (.refl _) ⟨rfl, rfl, (hle85)⟩
  ·
   rintro _ b84 _ _ ⟨rfl, rfl, hle85⟩ hq112
   rw [hq112] at hk89
   have hm := elimL hk89
   refine c_sr ?_
   refine t_st rfl (st_lss_f rfl rfl (by omega)) ?_
   refine t_ne ?_
   refine c_seq ?_
   refine c_cond_f rfl ?_
   refine c_exit ?_
   refine x_then_exit ?_
   refine x_then_exit ?_
   refine x_block_out ?_
   refine x_then_normal ?_
   refine c_sr ?_
   refine t_as rfl rfl ?_
   refine t_ne ?_
   refine c_ret ?_
   obtain rfl := some1 hm
   exact retM (rs := [.tmp 4]) [.int .i64 ((-1))] hle85 (by decide) rfl ⟨rfl, trivial⟩ rfl (.cons _ (.refl _)) ⟨rfl, rfl⟩

set_option maxRecDepth 20000 in
theorem cLineSignal (b : Base) (R : Hp) (s1 : ApiNet) (s17 : LineEnd) (A2 : Option Addr) (c3 : Nat) (A5 : Option Addr) (c6 : Nat) (A8 : Option Addr) (c9 : Nat) (A11 : Option Addr) (c12 : Nat) (A14 : Option Addr) (c15 : Nat) (h4 : FZ RT.str b.w A2 c3 s1.Stations) (h7 : FZ rApiSection b.w A5 c6 s1.Sections) (h10 : FZ rApiLink b.w A8 c9 s1.Links) (h13 : FZ rApiSignal b.w A11 c12 s1.Signals) (h16 : FZ rApiGate b.w A14 c15 s1.Gates) (x22 : Int) (hm : mLineSignal s1 s17 = some x22) :
    CallsG Tryz.prog 60 [.agg #[.slice A2 (s1.Stations).length c3, .slice A5 (s1.Sections).length c6, .slice A8 (s1.Links).length c9, .slice A11 (s1.Signals).length c12, .slice A14 (s1.Gates).length c15], .agg #[.int .i64 (s17.section_), .int .i64 (s17.end_)]] b (R) (fun v b' hp' => .int .i64 (x22) = v ∧ R = hp') := by
  refine fn_enterG 13 Tryz.func60 rfl Tryz.ntmps60 rfl ?_
  unfold mLineSignal at hm
  refine c_sr ?_
  refine t_do rfl (u_box _ rfl rfl) ?_
  rintro _ _ ⟨g23, rfl, rfl⟩
  refine t_do rfl (u_box _ rfl rfl) ?_
  rintro _ _ ⟨g24, rfl, rfl⟩
  refine t_as rfl rfl ?_
  refine t_ne ?_
  refine c_sr ?_
  refine t_st rfl (st_field rfl fld28_3) ?_
  refine t_st rfl (st_load 1 rfl one25 rfl rfl) ?_
  refine t_st rfl (st_field rfl fld109_0) ?_
  refine t_st rfl (st_load 0 rfl one3 rfl rfl) ?_
  refine t_st rfl (st_field rfl fld109_1) ?_
  refine t_st rfl (st_load 0 rfl one3 rfl rfl) ?_
  refine t_st rfl (st_build (v := .agg #[.int .i64 (s17.section_), .int .i64 (s17.end_)]) [(0, .int .i64 (s17.section_)), (1, .int .i64 (s17.end_))] rfl (fun _ => by kernel_rfl)) ?_
  obtain ⟨x25, hcl26, hm⟩ := bindS hm
  refine t_do rfl (u_callW0 _ call76 rfl (fun w ho => cSlicesIndex_2 _ [] s1.Signals (⟨s17.section_, s17.end_⟩ : ApiSignal) A11 c12 (h13.old ho) x25 hcl26) (fun _ _ _ h => h.2.symm)) ?_
  rintro _ _ ⟨⟨_, rfl, _⟩, rfl⟩
  refine t_as rfl rfl ?_
  refine t_ne ?_
  refine c_ret ?_
  obtain rfl := some1 hm
  exact retM (rs := [.tmp 4]) [.int .i64 (x25)] (Base.Le.refl _) (by decide) rfl ⟨rfl, trivial⟩ rfl (.cons _ (.cons _ (.refl _))) ⟨rfl, rfl⟩

end Go.Proofs.YtcibjjhanafojaaGreatDoor
