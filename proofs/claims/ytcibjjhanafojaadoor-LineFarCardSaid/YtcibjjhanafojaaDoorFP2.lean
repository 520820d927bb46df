/- Contracts: the code computes its model (part 2). -/
import Derived.Test.YtcibjjhanafojaaDoorFP1
set_option linter.unusedVariables false
set_option linter.unusedSimpArgs false
namespace Go.Proofs.YtcibjjhanafojaaDoor
open Go.RowKit Go.Fp

set_option maxRecDepth 20000 in
theorem cLineCheckSignals (b : Base) (R : Hp) (s1 : ApiNet) (A2 : Option Addr) (c3 : Nat) (A5 : Option Addr) (c6 : Nat) (A8 : Option Addr) (c9 : Nat) (A11 : Option Addr) (c12 : Nat) (A14 : Option Addr) (c15 : Nat) (h4 : FZ RT.str b.w A2 c3 s1.Stations) (h7 : FZ rApiSection b.w A5 c6 s1.Sections) (h10 : FZ rApiLink b.w A8 c9 s1.Links) (h13 : FZ rApiSignal b.w A11 c12 s1.Signals) (h16 : FZ rApiGate b.w A14 c15 s1.Gates) (x236 : Int) (hm : mLineCheckSignals s1 = some x236) :
    CallsG Tryd.prog 39 [.agg #[.slice A2 (s1.Stations).length c3, .slice A5 (s1.Sections).length c6, .slice A8 (s1.Links).length c9, .slice A11 (s1.Signals).length c12, .slice A14 (s1.Gates).length c15]] b (R) (fun v b' hp' => .int .i64 (x236) = v ∧ R = hp') := by
  refine fn_enterG 66 Tryd.func39 rfl Tryd.ntmps39 rfl ?_
  unfold mLineCheckSignals at hm
  refine c_sr ?_
  refine t_do rfl (u_box _ rfl rfl) ?_
  rintro _ _ ⟨g237, rfl, rfl⟩
  refine t_as rfl rfl ?_
  refine t_ne ?_
  refine c_seq ?_
  refine c_sr ?_
  refine t_st rfl (st_field rfl fld28_3) ?_
  refine t_st rfl (st_load 0 rfl one25 rfl rfl) ?_
  refine t_st rfl (st_len rfl sl25) ?_
  refine t_mv rfl rfl ?_
  refine t_ne ?_
  refine c_block ?_
  have hb239 : s1.Signals.length ≤ 9223372036854775807 := (FZ.bd h13)
  obtain ⟨t346, hl347, hk348⟩ := bindS hm
  refine c_forM (fun k345 => fun _ => fun b343 e' hp' => [(1, .pointer (some ⟨g237, 0, none⟩)), (10, .slice A11 (s1.Signals).length c12), (11, .int .i64 ((s1.Signals.length : Int))), (12, .int .i64 ((k345 : Int)))] = e' ∧ (g237, Cl 28 [.slice A2 (s1.Stations).length c3, .slice A5 (s1.Sections).length c6, .slice A8 (s1.Links).length c9, .slice A11 (s1.Signals).length c12, .slice A14 (s1.Gates).length c15]) :: R = hp' ∧ b.Le b343) hl347 (e' := [(1, .pointer (some ⟨g237, 0, none⟩)), (10, .slice A11 (s1.Signals).length c12), (11, .int .i64 ((s1.Signals.length : Int))), (12, .int .i64 0)]) ⟨rfl, rfl, rfl, rfl, trivial⟩ (.refl _) ⟨rfl, rfl, (Base.Le.refl _)⟩ ?_ ?_
  ·
   rintro k345 _ b343 _ _ oL238 hknL238 ⟨rfl, rfl, hle344⟩ hstepL238 houtL238
   unfold mLineCheckSignals_L238 at hstepL238
   have hm := hstepL238
   refine c_sr ?_
   refine t_st rfl (st_lss_t rfl rfl (by omega)) ?_
   refine t_ne ?_
   refine c_seq ?_
   refine c_cond_t rfl ?_
   refine c_skip ?_
   refine x_then_normal ?_
   refine c_seq ?_
   refine c_block ?_
   refine c_sr ?_
   refine t_mv rfl rfl ?_
   obtain ⟨x349, h350, hm⟩ := bindS hm
   obtain ⟨j351, hj352, hx353⟩ := idx_some h350
   obtain ⟨cs354, hr355, hcs356, hA357, hlt358⟩ := FZ.get (sz := 2) rfl (by decide) (h13.le hle344) hx353
   obtain ⟨_, _, rfl, rfl, rfl⟩ := hr355
   refine t_st rfl (st_index_old j351 rfl rfl hj352 hlt358 hA357 sl25) ?_
   refine t_st rfl (st_loadN_old (vs := [.int .i64 (x349.Section), .int .i64 (x349.End)]) 2 rfl agg64 hA357 rfl (fun j u hu => hcs356 j u hu)) ?_
   refine t_do rfl (u_alloc [.int .i64 0, .int .i64 0] zero64 rfl) ?_
   rintro _ _ ⟨g359, rfl, rfl⟩
   refine t_as rfl rfl ?_
   refine t_do rfl (u_storeN (vs := [_, _]) 0 2 rfl rfl rfl siz64 rfl (mem_c rfl (mem_c rfl mem_n)) rfl (by simp)) ?_
   rintro _ _ rfl
   refine t_ne ?_
   refine c_sr ?_
   refine t_st rfl (st_field rfl fld64_0) ?_
   refine t_st rfl (st_load 0 rfl one3 rfl rfl) ?_
   refine t_st rfl (st_field rfl fld64_1) ?_
   refine t_st rfl (st_load 0 rfl one3 rfl rfl) ?_
   refine t_st rfl (st_build (v := .agg #[.int .i64 (x349.Section), .int .i64 (x349.End)]) [(0, .int .i64 (x349.Section)), (1, .int .i64 (x349.End))] rfl (fun _ => by kernel_rfl)) ?_
   refine t_do rfl (u_alloc [.int .i64 0, .int .i64 0] zero77 rfl) ?_
   rintro _ _ ⟨g360, rfl, rfl⟩
   refine t_do rfl (u_storeN (vs := [_, _]) 0 2 rfl rfl rfl siz77 rfl (mem_c rfl (mem_c rfl mem_n)) rfl (by simp)) ?_
   rintro _ _ rfl
   refine t_ne ?_
   refine c_seq ?_
   refine c_sr ?_
   refine t_st rfl (st_loadD (vs := [_, _, _, _, _]) 2 5 rfl agg28 rfl rfl rfl) ?_
   refine t_st rfl (st_loadD (vs := [_, _]) 0 2 rfl agg77 rfl rfl rfl) ?_
   obtain ⟨x361, hcl362, hm⟩ := bindS hm
   refine t_do rfl (u_callW0 _ call24 rfl (fun w ho => cLineHas _ [] s1 (⟨x349.Section, x349.End⟩ : LineEnd) A2 c3 A5 c6 A8 c9 A11 c12 A14 c15 ((h4.le hle344).old ho) ((h7.le hle344).old ho) ((h10.le hle344).old ho) ((h13.le hle344).old ho) ((h16.le hle344).old ho) x361 hcl362) (fun _ _ _ h => h.2.symm)) ?_
   rintro _ _ ⟨⟨_, rfl, _⟩, rfl⟩
   refine t_st rfl (st_not rfl) ?_
   refine t_ne ?_
   refine c_cond _ rfl (fun hc363 => ?_) (fun hc363 => ?_)
   ·
    rw [if_neg (fun hh => Bool.noConfusion (hh.symm.trans (notT hc363)))] at hm
    refine c_sr ?_
    refine t_as rfl rfl ?_
    refine t_ne ?_
    refine c_ret ?_
    refine x_then_ret ?_
    refine x_block_ret ?_
    refine x_then_ret ?_
    refine x_then_ret ?_
    refine x_block_ret ?_
    refine x_then_ret ?_
    have hq364 := houtL238 _ (Option.some.inj hm).symm
    rw [hq364] at hk348
    have hm := elimR hk348
    obtain rfl := some1 hm
    exact retM (rs := [.tmp 2]) [.int .i64 (3)] hle344 (by decide) rfl ⟨rfl, trivial⟩ rfl (.cons _ (.cons _ (.cons _ (.refl _)))) ⟨rfl, rfl⟩
   ·
    rw [if_pos (notF hc363)] at hm
    refine c_skip ?_
    refine x_then_normal ?_
    refine c_seq ?_
    refine c_sr ?_
    refine t_st rfl (st_loadD (vs := [_, _, _, _, _]) 2 5 rfl agg28 rfl rfl rfl) ?_
    refine t_st rfl (st_loadD (vs := [_, _]) 0 2 rfl agg77 rfl rfl rfl) ?_
    obtain ⟨⟨x365, x366, x367⟩, hcl368, hm⟩ := bindS hm
    have hm := (unc3E hm)
    refine t_callG _ rfl call27 rfl (cLineJoined _ _ s1 (⟨x349.Section, x349.End⟩ : LineEnd) A2 c3 A5 c6 A8 c9 A11 c12 A14 c15 (h4.le hle344) (h7.le hle344) (h10.le hle344) (h13.le hle344) (h16.le hle344) x365 x366 x367 hcl368) ?_
    rintro _ b369 _ hle370 ⟨rfl, rfl⟩
    refine t_mv rfl rfl ?_
    refine t_st rfl (st_extract rfl rfl) ?_
    refine t_st rfl (st_extract rfl rfl) ?_
    refine t_do rfl (u_alloc [.int .i64 0, .int .i64 0] zero77 rfl) ?_
    rintro _ _ ⟨g371, rfl, rfl⟩
    refine t_do rfl (u_storeN (vs := [_, _]) 0 2 rfl rfl rfl siz77 rfl (mem_c rfl (mem_c rfl mem_n)) rfl (by simp)) ?_
    rintro _ _ rfl
    refine t_as rfl rfl ?_
    refine t_ne ?_
    obtain ⟨x385, hj386, hk386⟩ := bindS hm
    refine c_join (fun b383 e' hp' => [(1, .pointer (some ⟨g237, 0, none⟩)), (3, .int .i64 ((k345 : Int))), (4, .pointer (some ⟨g359, 0, none⟩)), (10, .slice A11 (s1.Signals).length c12), (11, .int .i64 ((s1.Signals.length : Int))), (12, .int .i64 ((k345 : Int))), (43, .bool (x385))] = e' ∧ (g237, Cl 28 [.slice A2 (s1.Stations).length c3, .slice A5 (s1.Sections).length c6, .slice A8 (s1.Links).length c9, .slice A11 (s1.Signals).length c12, .slice A14 (s1.Gates).length c15]) :: (g359, Cl 64 [.int .i64 (x349.Section), .int .i64 (x349.End)]) :: R = hp' ∧ b369.Le b383) ?_ ?_
    ·
     have hm := hj386
     refine c_region ?_
     refine t_mv rfl rfl ?_
     rcases Bool.eq_false_or_eq_true x367 with hc387 | hc387
     ·
      rw [if_pos hc387] at hm
      refine t_resp 32 rfl (v' := .bool true) (by rw [hc387] <;> rfl) ?_
      refine t_st rfl (st_not_t rfl) ?_
      refine t_mv rfl rfl ?_
      refine t_yes 34 rfl rfl rfl ?_
      refine t_st rfl (st_field rfl fld28_1) ?_
      refine t_yes 34 rfl rfl rfl ?_
      refine t_st rfl (st_load 3 rfl one23 rfl rfl) ?_
      refine t_yes 34 rfl rfl rfl ?_
      refine t_st rfl (st_field rfl fld64_0) ?_
      refine t_yes 34 rfl rfl rfl ?_
      refine t_st rfl (st_load 2 rfl one3 rfl rfl) ?_
      refine t_yes 34 rfl rfl rfl ?_
      obtain ⟨x388, h389, hm⟩ := bindS hm
      obtain ⟨j390, hj391, hx392⟩ := idx_some h389
      obtain ⟨cs393, hr394, hcs395, hA396, hlt397⟩ := FZ.get (sz := 7) rfl (by decide) (h7.le (hle344.trans hle370)) hx392
      obtain ⟨_, _, rfl, rfl, ⟨_, _, rfl, rfl, ⟨_, _, rfl, rfl, ⟨_, _, rfl, rfl, ⟨_, _, rfl, rfl, ⟨_, _, rfl, rfl, rfl⟩⟩⟩⟩⟩⟩ := hr394
      refine t_st rfl (st_index_old j390 rfl rfl hj391 hlt397 hA396 sl23) ?_
      refine t_yes 34 rfl rfl rfl ?_
      refine t_st rfl (st_field_old rfl hA396 fld58_0) ?_
      refine t_yes 34 rfl rfl rfl ?_
      refine t_st rfl (st_load_old rfl one3 (hcs395 0 _ rfl)) ?_
      refine t_yes 34 rfl rfl rfl ?_
      refine t_st rfl (st_neq rfl rfl) ?_
      refine t_st rfl (st_pick_f rfl rfl) ?_
      refine t_nil ?_
      obtain rfl := some1 hm
      refine x_pullb 2 rfl ?_
      refine x_pullb 3 rfl ?_
      exact x_join (e' := [(1, .pointer (some ⟨g237, 0, none⟩)), (3, .int .i64 ((k345 : Int))), (4, .pointer (some ⟨g359, 0, none⟩)), (10, .slice A11 (s1.Signals).length c12), (11, .int .i64 ((s1.Signals.length : Int))), (12, .int .i64 ((k345 : Int))), (43, .bool (decide (x388.Kind ≠ 1)))]) ⟨rfl, rfl, rfl, rfl, rfl, rfl, rfl, trivial⟩ (.cons_cons _ (.cons_cons _ (.cons _ (.cons _ (.refl _))))) ⟨rfl, rfl, (Base.Le.refl _)⟩
     ·
      rw [if_neg (fun hh => Bool.noConfusion (hh.symm.trans hc387))] at hm
      refine t_resp 32 rfl (v' := .bool false) (by rw [hc387] <;> rfl) ?_
      refine t_st rfl (st_not_f rfl) ?_
      refine t_mv rfl rfl ?_
      refine t_no 34 rfl rfl rfl rfl rfl ?_
      refine t_no 34 rfl rfl rfl rfl rfl ?_
      refine t_no 34 rfl rfl rfl rfl rfl ?_
      refine t_no 34 rfl rfl rfl rfl rfl ?_
      refine t_no 34 rfl rfl rfl rfl rfl ?_
      refine t_no 34 rfl rfl rfl rfl rfl ?_
      refine t_no 34 rfl rfl rfl rfl rfl ?_
      refine t_no 34 rfl rfl rfl rfl rfl ?_
      refine t_st rfl (st_pick_t rfl rfl) ?_
      refine t_nil ?_
      obtain rfl := some1 hm
      refine x_pullb 2 rfl ?_
      refine x_pullb 3 rfl ?_
      exact x_join (e' := [(1, .pointer (some ⟨g237, 0, none⟩)), (3, .int .i64 ((k345 : Int))), (4, .pointer (some ⟨g359, 0, none⟩)), (10, .slice A11 (s1.Signals).length c12), (11, .int .i64 ((s1.Signals.length : Int))), (12, .int .i64 ((k345 : Int))), (43, .bool (true))]) ⟨rfl, rfl, rfl, rfl, rfl, rfl, rfl, trivial⟩ (.cons_cons _ (.cons_cons _ (.cons _ (.cons _ (.refl _))))) ⟨rfl, rfl, (Base.Le.refl _)⟩
    ·
     rintro b383 _ _ ⟨rfl, rfl, hle384⟩
     have hm := hk386
     refine c_cond _ rfl (fun hc398 => ?_) (fun hc398 => ?_)
     ·
      rw [if_pos hc398] at hm
      refine c_sr ?_
      refine t_as rfl rfl ?_
      refine t_ne ?_
      refine c_ret ?_
      refine x_then_ret ?_
      refine x_block_ret ?_
      refine x_then_ret ?_
      refine x_then_ret ?_
      refine x_block_ret ?_
      refine x_then_ret ?_
      have hq399 := houtL238 _ (Option.some.inj hm).symm
      rw [hq399] at hk348
      have hm := elimR hk348
      obtain rfl := some1 hm
      exact retM (rs := [.tmp 2]) [.int .i64 (1)] (hle344.trans (hle370.trans hle384)) (by decide) rfl ⟨rfl, trivial⟩ rfl (.cons _ (.cons _ (.refl _))) ⟨rfl, rfl⟩
     ·
      rw [if_neg (fun hh => Bool.noConfusion (hh.symm.trans hc398))] at hm
      refine c_skip ?_
      refine x_then_normal ?_
      refine c_sr ?_
      refine t_mv rfl rfl ?_
      refine t_st rfl (st_gtr rfl rfl) ?_
      refine t_ne ?_
      refine c_cond _ rfl (fun hc400 => ?_) (fun hc400 => ?_)
      ·
       rw [if_pos (of_decide_eq_true hc400)] at hm
       refine c_sr ?_
       refine t_st rfl (st_field rfl fld28_3) ?_
       refine t_st rfl (st_load 0 rfl one25 rfl rfl) ?_
       refine t_mv rfl rfl ?_
       obtain ⟨_, h401, hm⟩ := bindS hm
       have h401 := (chk_some h401).2
       refine t_st rfl (st_sub rfl rfl h401) ?_
       obtain ⟨x402, h403, hm⟩ := bindS hm
       obtain ⟨j404, hj405, hx406⟩ := idx_some h403
       obtain ⟨cs407, hr408, hcs409, hA410, hlt411⟩ := FZ.get (sz := 2) rfl (by decide) (h13.le (hle344.trans (hle370.trans hle384))) hx406
       obtain ⟨_, _, rfl, rfl, rfl⟩ := hr408
       refine t_st rfl (st_index_old j404 rfl rfl hj405 hlt411 hA410 sl25) ?_
       refine t_st rfl (st_loadN_old (vs := [.int .i64 (x402.Section), .int .i64 (x402.End)]) 2 rfl agg64 hA410 rfl (fun j u hu => hcs409 j u hu)) ?_
       refine t_do rfl (u_alloc [.int .i64 0, .int .i64 0] zero64 rfl) ?_
       rintro _ _ ⟨g412, rfl, rfl⟩
       refine t_do rfl (u_storeN (vs := [_, _]) 0 2 rfl rfl rfl siz64 rfl (mem_c rfl (mem_c rfl mem_n)) rfl (by simp)) ?_
       rintro _ _ rfl
       refine t_ne ?_
       obtain ⟨x433, hj434, hk434⟩ := bindS hm
       refine c_join (fun b431 e' hp' => [(1, .pointer (some ⟨g237, 0, none⟩)), (10, .slice A11 (s1.Signals).length c12), (11, .int .i64 ((s1.Signals.length : Int))), (12, .int .i64 ((k345 : Int))), (64, .bool (x433))] = e' ∧ (g237, Cl 28 [.slice A2 (s1.Stations).length c3, .slice A5 (s1.Sections).length c6, .slice A8 (s1.Links).length c9, .slice A11 (s1.Signals).length c12, .slice A14 (s1.Gates).length c15]) :: R = hp' ∧ b383.Le b431) ?_ ?_
       ·
        have hm := hj434
        obtain ⟨x444, hcl445, hm⟩ := bindS hm
        obtain ⟨x446, hcl447, hm⟩ := bindS hm
        obtain ⟨x451, hcl452, hm⟩ := bindS hm
        refine D_drawI mixed (.refl _) ?_
        refine E_st 0 rfl (st_field rfl fld64_0) ?_
        refine E_st 1 rfl (st_load 0 rfl one3 rfl rfl) ?_
        refine E_st 2 rfl (st_field rfl fld64_0) ?_
        refine E_st 3 rfl (st_load 2 rfl one3 rfl rfl) ?_
        refine E_st 5 rfl (st_field rfl fld64_1) ?_
        refine E_st 6 rfl (st_load 0 rfl one3 rfl rfl) ?_
        refine E_st 7 rfl (st_field rfl fld64_1) ?_
        refine E_st 8 rfl (st_load 2 rfl one3 rfl rfl) ?_
        refine E_out ?_
        refine D_all [4] (by kernel_rfl) rfl ?_
        refine R_do (Base.Le.refl _) rfl rfl (u_callW0 _ call57 rfl (fun w ho => cCmpCompare _ [] x402.Section x349.Section x444 hcl445) (fun _ _ _ h => h.2.symm)) ?_ ?_
        ·
         rintro _ _ ⟨⟨_, rfl, _⟩, rfl⟩
         refine ⟨.inr (.refl _), ?_⟩
         refine D_all [9] (by kernel_rfl) rfl ?_
         refine R_do (Base.Le.refl _) rfl rfl (u_callW0 _ call57 rfl (fun w ho => cCmpCompare _ [] x402.End x349.End x446 hcl447) (fun _ _ _ h => h.2.symm)) ?_ ?_
         ·
          rintro _ _ ⟨⟨_, rfl, _⟩, rfl⟩
          refine ⟨.inr (.refl _), ?_⟩
          refine D_all [10] (by kernel_rfl) rfl ?_
          refine R_do (Base.Le.refl _) rfl rfl (u_bslice (el := 3) [(0, .int .i64 (x444)), (1, .int .i64 (x446))] [.int .i64 (x444), .int .i64 (x446)] rfl (fun _ => by kernel_rfl)) ?_ ?_
          ·
           rintro _ _ ⟨g448, rfl, rfl⟩
           refine ⟨.inr (.cons _ (.refl _)), ?_⟩
           refine d_seg 0 [_, _, _] R rfl rfl ?_
           have h450 : OS 3 (OT.fr (RT.int .i64)) b383.w (.slice (some ⟨g448, 0, none⟩) 2 2) [x444, x446] [(g448, Cl 3 [.int .i64 (x444), .int .i64 (x446)])] := OS.lit [[.int .i64 (x444)], [.int .i64 (x446)]] rfl ⟨rfl, ⟨rfl, trivial⟩⟩ rfl (by decide)
           refine D_all [11] (by kernel_rfl) rfl ?_
           refine R_do (Base.Le.refl _) rfl rfl (u_callW0 _ call56 rfl (fun w ho => cCmpOr _ [] [x444, x446] (some ⟨g448, 0, none⟩) 2 (OS.now (o := (OT.fr (RT.int .i64))) (l := [x444, x446]) (hs := [(g448, Cl 3 [.int .i64 (x444), .int .i64 (x446)])]) h450 ho (.cons _ (.cons _ (.cons _ (List.sublist_append_left _ _))))) x451 hcl452) (fun _ _ _ h => h.2.symm)) ?_ ?_
           ·
            rintro _ _ ⟨⟨_, rfl, _⟩, rfl⟩
            refine ⟨.inr (.cons_cons _ (.cons_cons _ (.cons_cons _ (sub_skip [(g448, Cl 3 [.int .i64 (x444), .int .i64 (x446)])] (.refl _))))), ?_⟩
            refine E_in (.cons_cons _ (.cons_cons _ (.cons_cons _ (sub_skip [(g448, Cl 3 [.int .i64 (x444), .int .i64 (x446)])] (.refl _))))) ?_
            refine E_st 12 rfl (st_geq rfl rfl) ?_
            refine E_out ?_
            refine D_done (by kernel_rfl) ?_
            obtain rfl := some1 hm
            refine x_pullb 1 rfl ?_
            exact x_join (e' := [(1, .pointer (some ⟨g237, 0, none⟩)), (10, .slice A11 (s1.Signals).length c12), (11, .int .i64 ((s1.Signals.length : Int))), (12, .int .i64 ((k345 : Int))), (64, .bool (decide (0 ≤ x451)))]) ⟨rfl, rfl, rfl, rfl, rfl, trivial⟩ (.cons_cons _ (.cons _ (.cons _ (sub_skip [(g448, Cl 3 [.int .i64 (x444), .int .i64 (x446)])] (.refl _))))) ⟨rfl, rfl, (Base.Le.refl _)⟩
           exact R_nil
          exact R_nil
         exact R_nil
        exact R_nil
       ·
        rintro b431 _ _ ⟨rfl, rfl, hle432⟩
        have hm := hk434
        refine c_cond _ rfl (fun hc453 => ?_) (fun hc453 => ?_)
        ·
         rw [if_pos hc453] at hm
         refine c_sr ?_
         refine t_as rfl rfl ?_
         refine t_ne ?_
         refine c_ret ?_
         refine x_block_ret ?_
         refine x_then_ret ?_
         refine x_then_ret ?_
         refine x_block_ret ?_
         refine x_then_ret ?_
         have hq454 := houtL238 _ (Option.some.inj hm).symm
         rw [hq454] at hk348
         have hm := elimR hk348
         obtain rfl := some1 hm
         exact retM (rs := [.tmp 2]) [.int .i64 (5)] (hle344.trans (hle370.trans (hle384.trans hle432))) (by decide) rfl ⟨rfl, trivial⟩ rfl (.cons _ (.refl _)) ⟨rfl, rfl⟩
        ·
         rw [if_neg (fun hh => Bool.noConfusion (hh.symm.trans hc453))] at hm
         refine c_skip ?_
         refine x_block_normal ?_
         refine x_then_normal ?_
         refine c_region ?_
         refine t_st rfl (st_add rfl rfl (by omega)) ?_
         refine t_mv rfl rfl ?_
         refine t_nil ?_
         exact x_againM () (Option.some.inj hm).symm (e' := [(1, .pointer (some ⟨g237, 0, none⟩)), (10, .slice A11 (s1.Signals).length c12), (11, .int .i64 ((s1.Signals.length : Int))), (12, .int .i64 ((k345 : Int) + 1))]) ⟨rfl, rfl, rfl, rfl, trivial⟩ (.refl _) ⟨rfl, rfl, ((hle344.trans (hle370.trans (hle384.trans hle432))))⟩
      ·
       rw [if_neg (of_decide_eq_false hc400)] at hm
       refine c_skip ?_
       refine x_block_normal ?_
       refine x_then_normal ?_
       refine c_region ?_
       refine t_st rfl (st_add rfl rfl (by omega)) ?_
       refine t_mv rfl rfl ?_
       refine t_nil ?_
       exact x_againM () (Option.some.inj hm).symm (e' := [(1, .pointer (some ⟨g237, 0, none⟩)), (10, .slice A11 (s1.Signals).length c12), (11, .int .i64 ((s1.Signals.length : Int))), (12, .int .i64 ((k345 : Int) + 1))]) ⟨rfl, rfl, rfl, rfl, trivial⟩ (.cons_cons _ (.cons _ (.refl _))) ⟨rfl, rfl, ((hle344.trans (hle370.trans hle384)))⟩
  ·
   rintro _ b343 _ _ ⟨rfl, rfl, hle344⟩ hq455
   rw [hq455] at hk348
   have hm := elimL hk348
   refine c_sr ?_
   refine t_st rfl (st_lss_f rfl rfl (by omega)) ?_
   refine t_ne ?_
   refine c_seq ?_
   refine c_cond_f rfl ?_
   refine c_exit ?_
   refine x_then_exit ?_
   refine x_then_exit ?_
   refine x_block_out ?_
   refine x_then_normal ?_
   refine c_sr ?_
   refine t_as rfl rfl ?_
   refine t_ne ?_
   refine c_ret ?_
   obtain rfl := some1 hm
   exact retM (rs := [.tmp 2]) [.int .i64 (0)] hle344 (by decide) rfl ⟨rfl, trivial⟩ rfl (.cons _ (.refl _)) ⟨rfl, rfl⟩

set_option maxRecDepth 20000 in
theorem cLineCheckGates (b : Base) (R : Hp) (s1 : ApiNet) (A2 : Option Addr) (c3 : Nat) (A5 : Option Addr) (c6 : Nat) (A8 : Option Addr) (c9 : Nat) (A11 : Option Addr) (c12 : Nat) (A14 : Option Addr) (c15 : Nat) (h4 : FZ RT.str b.w A2 c3 s1.Stations) (h7 : FZ rApiSection b.w A5 c6 s1.Sections) (h10 : FZ rApiLink b.w A8 c9 s1.Links) (h13 : FZ rApiSignal b.w A11 c12 s1.Signals) (h16 : FZ rApiGate b.w A14 c15 s1.Gates) (x195 : Int) (hm : mLineCheckGates s1 = some x195) :
    CallsG Tryd.prog 40 [.agg #[.slice A2 (s1.Stations).length c3, .slice A5 (s1.Sections).length c6, .slice A8 (s1.Links).length c9, .slice A11 (s1.Signals).length c12, .slice A14 (s1.Gates).length c15]] b (R) (fun v b' hp' => .int .i64 (x195) = v ∧ R = hp') := by
  refine fn_enterG 52 Tryd.func40 rfl Tryd.ntmps40 rfl ?_
  unfold mLineCheckGates at hm
  refine c_sr ?_
  refine t_do rfl (u_box _ rfl rfl) ?_
  rintro _ _ ⟨g196, rfl, rfl⟩
  refine t_as rfl rfl ?_
  refine t_ne ?_
  refine c_seq ?_
  refine c_sr ?_
  refine t_st rfl (st_field rfl fld28_4) ?_
  refine t_st rfl (st_load 0 rfl one26 rfl rfl) ?_
  refine t_st rfl (st_len rfl sl26) ?_
  refine t_mv rfl rfl ?_
  refine t_ne ?_
  refine c_block ?_
  have hb198 : s1.Gates.length ≤ 9223372036854775807 := (FZ.bd h16)
  obtain ⟨t284, hl285, hk286⟩ := bindS hm
  refine c_forM (fun k283 => fun _ => fun b281 e' hp' => [(1, .pointer (some ⟨g196, 0, none⟩)), (6, .slice A14 (s1.Gates).length c15), (7, .int .i64 ((s1.Gates.length : Int))), (8, .int .i64 ((k283 : Int)))] = e' ∧ (g196, Cl 28 [.slice A2 (s1.Stations).length c3, .slice A5 (s1.Sections).length c6, .slice A8 (s1.Links).length c9, .slice A11 (s1.Signals).length c12, .slice A14 (s1.Gates).length c15]) :: R = hp' ∧ b.Le b281) hl285 (e' := [(1, .pointer (some ⟨g196, 0, none⟩)), (6, .slice A14 (s1.Gates).length c15), (7, .int .i64 ((s1.Gates.length : Int))), (8, .int .i64 0)]) ⟨rfl, rfl, rfl, rfl, trivial⟩ (.refl _) ⟨rfl, rfl, (Base.Le.refl _)⟩ ?_ ?_
  ·
   rintro k283 _ b281 _ _ oL197 hknL197 ⟨rfl, rfl, hle282⟩ hstepL197 houtL197
   unfold mLineCheckGates_L197 at hstepL197
   have hm := hstepL197
   refine c_sr ?_
   refine t_st rfl (st_lss_t rfl rfl (by omega)) ?_
   refine t_ne ?_
   refine c_seq ?_
   refine c_cond_t rfl ?_
   refine c_skip ?_
   refine x_then_normal ?_
   refine c_seq ?_
   refine c_block ?_
   refine c_sr ?_
   refine t_mv rfl rfl ?_
   obtain ⟨x287, h288, hm⟩ := bindS hm
   obtain ⟨j289, hj290, hx291⟩ := idx_some h288
   obtain ⟨cs292, hr293, hcs294, hA295, hlt296⟩ := FZ.get (sz := 2) rfl (by decide) (h16.le hle282) hx291
   obtain ⟨_, _, rfl, rfl, rfl⟩ := hr293
   refine t_st rfl (st_index_old j289 rfl rfl hj290 hlt296 hA295 sl26) ?_
   refine t_st rfl (st_loadN_old (vs := [.int .i64 (x287.Section), .int .i64 (x287.Close)]) 2 rfl agg67 hA295 rfl (fun j u hu => hcs294 j u hu)) ?_
   refine t_do rfl (u_alloc [.int .i64 0, .int .i64 0] zero67 rfl) ?_
   rintro _ _ ⟨g297, rfl, rfl⟩
   refine t_as rfl rfl ?_
   refine t_do rfl (u_storeN (vs := [_, _]) 0 2 rfl rfl rfl siz67 rfl (mem_c rfl (mem_c rfl mem_n)) rfl (by simp)) ?_
   rintro _ _ rfl
   refine t_ne ?_
   refine c_block ?_
   refine c_sr ?_
   refine t_st rfl (st_field rfl fld67_0) ?_
   refine t_st rfl (st_load 0 rfl one3 rfl rfl) ?_
   refine t_st rfl (st_field rfl fld28_1) ?_
   refine t_st rfl (st_load 1 rfl one23 rfl rfl) ?_
   refine t_st rfl (st_len rfl sl23) ?_
   obtain ⟨_, h298, hm⟩ := bindS hm
   have h298 := (chk_some h298).2
   refine t_st rfl (st_sub rfl rfl h298) ?_
   obtain ⟨x299, hcl300, hm⟩ := bindS hm
   refine t_do rfl (u_callW0 _ call46 rfl (fun w ho => cLineWithin _ [] x287.Section 0 ((s1.Sections.length : Int) - 1) x299 hcl300) (fun _ _ _ h => h.2.symm)) ?_
   rintro _ _ ⟨⟨_, rfl, _⟩, rfl⟩
   refine t_st rfl (st_not rfl) ?_
   refine t_as rfl rfl ?_
   refine t_ne ?_
   refine c_cond _ rfl (fun hc301 => ?_) (fun hc301 => ?_)
   ·
    rw [if_neg (fun hh => Bool.noConfusion (hh.symm.trans (notT hc301)))] at hm
    refine c_sr ?_
    refine t_as rfl rfl ?_
    refine t_ne ?_
    refine c_ret ?_
    refine x_block_ret ?_
    refine x_block_ret ?_
    refine x_then_ret ?_
    refine x_then_ret ?_
    refine x_block_ret ?_
    refine x_then_ret ?_
    have hq302 := houtL197 _ (Option.some.inj hm).symm
    rw [hq302] at hk286
    have hm := elimR hk286
    obtain rfl := some1 hm
    exact retM (rs := [.tmp 2]) [.int .i64 (3)] hle282 (by decide) rfl ⟨rfl, trivial⟩ rfl (.cons _ (.cons _ (.refl _))) ⟨rfl, rfl⟩
   ·
    rw [if_pos (notF hc301)] at hm
    refine c_sr ?_
    refine t_st rfl (st_field rfl fld28_1) ?_
    refine t_st rfl (st_load 1 rfl one23 rfl rfl) ?_
    refine t_st rfl (st_field rfl fld67_0) ?_
    refine t_st rfl (st_load 0 rfl one3 rfl rfl) ?_
    obtain ⟨x303, h304, hm⟩ := bindS hm
    obtain ⟨j305, hj306, hx307⟩ := idx_some h304
    obtain ⟨cs308, hr309, hcs310, hA311, hlt312⟩ := FZ.get (sz := 7) rfl (by decide) (h7.le hle282) hx307
    obtain ⟨_, _, rfl, rfl, ⟨_, _, rfl, rfl, ⟨_, _, rfl, rfl, ⟨_, _, rfl, rfl, ⟨_, _, rfl, rfl, ⟨_, _, rfl, rfl, rfl⟩⟩⟩⟩⟩⟩ := hr309
    refine t_st rfl (st_index_old j305 rfl rfl hj306 hlt312 hA311 sl23) ?_
    refine t_st rfl (st_field_old rfl hA311 fld58_0) ?_
    refine t_st rfl (st_load_old rfl one3 (hcs310 0 _ rfl)) ?_
    refine t_st rfl (st_neq rfl rfl) ?_
    refine t_as rfl rfl ?_
    refine t_ne ?_
    refine c_cond _ rfl (fun hc313 => ?_) (fun hc313 => ?_)
    ·
     rw [if_pos (of_decide_eq_true hc313)] at hm
     refine c_sr ?_
     refine t_as rfl rfl ?_
     refine t_ne ?_
     refine c_ret ?_
     refine x_block_ret ?_
     refine x_block_ret ?_
     refine x_then_ret ?_
     refine x_then_ret ?_
     refine x_block_ret ?_
     refine x_then_ret ?_
     have hq314 := houtL197 _ (Option.some.inj hm).symm
     rw [hq314] at hk286
     have hm := elimR hk286
     obtain rfl := some1 hm
     exact retM (rs := [.tmp 2]) [.int .i64 (1)] hle282 (by decide) rfl ⟨rfl, trivial⟩ rfl (.cons _ (.cons _ (.refl _))) ⟨rfl, rfl⟩
    ·
     rw [if_neg (of_decide_eq_false hc313)] at hm
     refine c_sr ?_
     refine t_st rfl (st_field rfl fld67_1) ?_
     refine t_st rfl (st_load 0 rfl one3 rfl rfl) ?_
     obtain ⟨x315, hcl316, hm⟩ := bindS hm
     refine t_do rfl (u_callW0 _ call46 rfl (fun w ho => cLineWithin _ [] x287.Close 1 12 x315 hcl316) (fun _ _ _ h => h.2.symm)) ?_
     rintro _ _ ⟨⟨_, rfl, _⟩, rfl⟩
     refine t_st rfl (st_not rfl) ?_
     refine t_as rfl rfl ?_
     refine t_ne ?_
     refine c_cond _ rfl (fun hc317 => ?_) (fun hc317 => ?_)
     ·
      rw [if_neg (fun hh => Bool.noConfusion (hh.symm.trans (notT hc317)))] at hm
      refine c_sr ?_
      refine t_as rfl rfl ?_
      refine t_ne ?_
      refine c_ret ?_
      refine x_block_ret ?_
      refine x_block_ret ?_
      refine x_then_ret ?_
      refine x_then_ret ?_
      refine x_block_ret ?_
      refine x_then_ret ?_
      have hq318 := houtL197 _ (Option.some.inj hm).symm
      rw [hq318] at hk286
      have hm := elimR hk286
      obtain rfl := some1 hm
      exact retM (rs := [.tmp 2]) [.int .i64 (2)] hle282 (by decide) rfl ⟨rfl, trivial⟩ rfl (.cons _ (.cons _ (.refl _))) ⟨rfl, rfl⟩
     ·
      rw [if_pos (notF hc317)] at hm
      obtain ⟨x345, hj346, hk346⟩ := bindS hm
      refine c_join (fun b343 e' hp' => [(1, .pointer (some ⟨g196, 0, none⟩)), (6, .slice A14 (s1.Gates).length c15), (7, .int .i64 ((s1.Gates.length : Int))), (8, .int .i64 ((k283 : Int))), (36, .bool (x345))] = e' ∧ (g196, Cl 28 [.slice A2 (s1.Stations).length c3, .slice A5 (s1.Sections).length c6, .slice A8 (s1.Links).length c9, .slice A11 (s1.Signals).length c12, .slice A14 (s1.Gates).length c15]) :: R = hp' ∧ b281.Le b343) ?_ ?_
      ·
       have hm := hj346
       by_cases hc359 : 0 < (k283 : Int)
       ·
        rw [if_pos hc359] at hm
        obtain ⟨_, h360, hm⟩ := bindS hm
        obtain ⟨x361, h362, hm⟩ := bindS hm
        refine D_drawI mixed (.refl _) ?_
        refine E_st 0 rfl (st_move rfl) ?_
        refine E_st 1 rfl (st_gtr_t rfl rfl hc359) ?_
        refine E_st 2 rfl (st_move rfl) ?_
        refine E_yes 3 39 rfl (st_field rfl fld67_0) ?_
        refine E_yes 4 39 rfl (st_load 0 rfl one3 rfl rfl) ?_
        refine E_yes 5 39 rfl (st_field rfl fld28_4) ?_
        refine E_yes 6 39 rfl (st_load 1 rfl one26 rfl rfl) ?_
        refine E_yes 7 39 rfl (st_move rfl) ?_
        have h360 := (chk_some h360).2
        refine E_yes 8 39 rfl (st_sub rfl rfl h360) ?_
        obtain ⟨j363, hj364, hx365⟩ := idx_some h362
        obtain ⟨cs366, hr367, hcs368, hA369, hlt370⟩ := FZ.get (sz := 2) rfl (by decide) (h16.le hle282) hx365
        obtain ⟨_, _, rfl, rfl, rfl⟩ := hr367
        refine E_yes 9 39 rfl (st_index_old j363 rfl rfl hj364 hlt370 hA369 sl26) ?_
        refine E_yes 10 39 rfl (st_field_old rfl hA369 fld67_0) ?_
        refine E_yes 11 39 rfl (st_load_old rfl one3 (hcs368 0 _ rfl)) ?_
        refine E_yes 12 39 rfl (st_leq rfl rfl) ?_
        refine E_st 13 rfl (st_pick_t rfl rfl) ?_
        refine E_st 14 rfl (st_assign rfl) ?_
        refine E_out ?_
        refine D_done (by kernel_rfl) ?_
        obtain rfl := some1 hm
        refine x_pullb 1 rfl ?_
        exact x_join (e' := [(1, .pointer (some ⟨g196, 0, none⟩)), (6, .slice A14 (s1.Gates).length c15), (7, .int .i64 ((s1.Gates.length : Int))), (8, .int .i64 ((k283 : Int))), (36, .bool (decide (x287.Section ≤ x361.Section)))]) ⟨rfl, rfl, rfl, rfl, rfl, trivial⟩ (.cons_cons _ (.cons _ (.refl _))) ⟨rfl, rfl, (Base.Le.refl _)⟩
       ·
        rw [if_neg hc359] at hm
        refine D_drawI mixed (.refl _) ?_
        refine E_st 0 rfl (st_move rfl) ?_
        refine E_st 1 rfl (st_gtr_f rfl rfl hc359) ?_
        refine E_st 2 rfl (st_move rfl) ?_
        refine E_no 3 39 rfl rfl rfl ?_
        refine E_no 4 39 rfl rfl rfl ?_
        refine E_no 5 39 rfl rfl rfl ?_
        refine E_no 6 39 rfl rfl rfl ?_
        refine E_no 7 39 rfl rfl rfl ?_
        refine E_no 8 39 rfl rfl rfl ?_
        refine E_no 9 39 rfl rfl rfl ?_
        refine E_no 10 39 rfl rfl rfl ?_
        refine E_no 11 39 rfl rfl rfl ?_
        refine E_no 12 39 rfl rfl rfl ?_
        refine E_st 13 rfl (st_pick_f rfl rfl) ?_
        refine E_st 14 rfl (st_assign rfl) ?_
        refine E_out ?_
        refine D_done (by kernel_rfl) ?_
        obtain rfl := some1 hm
        refine x_pullb 1 rfl ?_
        exact x_join (e' := [(1, .pointer (some ⟨g196, 0, none⟩)), (6, .slice A14 (s1.Gates).length c15), (7, .int .i64 ((s1.Gates.length : Int))), (8, .int .i64 ((k283 : Int))), (36, .bool (false))]) ⟨rfl, rfl, rfl, rfl, rfl, trivial⟩ (.cons_cons _ (.cons _ (.refl _))) ⟨rfl, rfl, (Base.Le.refl _)⟩
      ·
       rintro b343 _ _ ⟨rfl, rfl, hle344⟩
       have hm := hk346
       refine c_cond _ rfl (fun hc371 => ?_) (fun hc371 => ?_)
       ·
        rw [if_pos hc371] at hm
        refine c_sr ?_
        refine t_as rfl rfl ?_
        refine t_ne ?_
        refine c_ret ?_
        refine x_block_ret ?_
        refine x_block_ret ?_
        refine x_then_ret ?_
        refine x_then_ret ?_
        refine x_block_ret ?_
        refine x_then_ret ?_
        have hq372 := houtL197 _ (Option.some.inj hm).symm
        rw [hq372] at hk286
        have hm := elimR hk286
        obtain rfl := some1 hm
        exact retM (rs := [.tmp 2]) [.int .i64 (5)] (hle282.trans hle344) (by decide) rfl ⟨rfl, trivial⟩ rfl (.cons _ (.refl _)) ⟨rfl, rfl⟩
       ·
        rw [if_neg (fun hh => Bool.noConfusion (hh.symm.trans hc371))] at hm
        refine c_skip ?_
        refine x_block_normal ?_
        refine x_block_normal ?_
        refine x_then_normal ?_
        refine c_region ?_
        refine t_st rfl (st_add rfl rfl (by omega)) ?_
        refine t_mv rfl rfl ?_
        refine t_nil ?_
        exact x_againM () (Option.some.inj hm).symm (e' := [(1, .pointer (some ⟨g196, 0, none⟩)), (6, .slice A14 (s1.Gates).length c15), (7, .int .i64 ((s1.Gates.length : Int))), (8, .int .i64 ((k283 : Int) + 1))]) ⟨rfl, rfl, rfl, rfl, trivial⟩ (.refl _) ⟨rfl, rfl, ((hle282.trans hle344))⟩
  ·
   rintro _ b281 _ _ ⟨rfl, rfl, hle282⟩ hq373
   rw [hq373] at hk286
   have hm := elimL hk286
   refine c_sr ?_
   refine t_st rfl (st_lss_f rfl rfl (by omega)) ?_
   refine t_ne ?_
   refine c_seq ?_
   refine c_cond_f rfl ?_
   refine c_exit ?_
   refine x_then_exit ?_
   refine x_then_exit ?_
   refine x_block_out ?_
   refine x_then_normal ?_
   refine c_sr ?_
   refine t_as rfl rfl ?_
   refine t_ne ?_
   refine c_ret ?_
   obtain rfl := some1 hm
   exact retM (rs := [.tmp 2]) [.int .i64 (0)] hle282 (by decide) rfl ⟨rfl, trivial⟩ rfl (.cons _ (.refl _)) ⟨rfl, rfl⟩

set_option maxRecDepth 20000 in
theorem cLineCheck (b : Base) (R : Hp) (s1 : ApiNet) (A2 : Option Addr) (c3 : Nat) (A5 : Option Addr) (c6 : Nat) (A8 : Option Addr) (c9 : Nat) (A11 : Option Addr) (c12 : Nat) (A14 : Option Addr) (c15 : Nat) (h4 : FZ RT.str b.w A2 c3 s1.Stations) (h7 : FZ rApiSection b.w A5 c6 s1.Sections) (h10 : FZ rApiLink b.w A8 c9 s1.Links) (h13 : FZ rApiSignal b.w A11 c12 s1.Signals) (h16 : FZ rApiGate b.w A14 c15 s1.Gates) (x178 : Int) (hm : mLineCheck s1 = some x178) :
    CallsG Tryd.prog 15 [.agg #[.slice A2 (s1.Stations).length c3, .slice A5 (s1.Sections).length c6, .slice A8 (s1.Links).length c9, .slice A11 (s1.Signals).length c12, .slice A14 (s1.Gates).length c15]] b (R) (fun v b' hp' => .int .i64 (x178) = v ∧ R = hp') := by
  refine fn_enterG 92 Tryd.func15 rfl Tryd.ntmps15 rfl ?_
  unfold mLineCheck at hm
  refine c_sr ?_
  refine t_do rfl (u_box _ rfl rfl) ?_
  rintro _ _ ⟨g179, rfl, rfl⟩
  refine t_as rfl rfl ?_
  refine t_ne ?_
  refine c_seq ?_
  refine c_block ?_
  refine c_sr ?_
  refine t_st rfl (st_field rfl fld28_1) ?_
  refine t_st rfl (st_load 0 rfl one23 rfl rfl) ?_
  refine t_st rfl (st_len rfl sl23) ?_
  refine t_st rfl (st_eql rfl rfl) ?_
  refine t_as rfl rfl ?_
  refine t_ne ?_
  refine c_cond _ rfl (fun hc180 => ?_) (fun hc180 => ?_)
  ·
   rw [if_pos (of_decide_eq_true hc180)] at hm
   refine c_sr ?_
   refine t_as rfl rfl ?_
   refine t_ne ?_
   refine c_ret ?_
   refine x_block_ret ?_
   refine x_then_ret ?_
   obtain rfl := some1 hm
   exact retM (rs := [.tmp 2]) [.int .i64 (1)] (Base.Le.refl _) (by decide) rfl ⟨rfl, trivial⟩ rfl (.cons _ (.refl _)) ⟨rfl, rfl⟩
  ·
   rw [if_neg (of_decide_eq_false hc180)] at hm
   obtain ⟨x187, hj188, hk188⟩ := bindS hm
   refine c_join (fun b185 e' hp' => [(1, .pointer (some ⟨g179, 0, none⟩)), (16, .bool (x187))] = e' ∧ (g179, Cl 28 [.slice A2 (s1.Stations).length c3, .slice A5 (s1.Sections).length c6, .slice A8 (s1.Links).length c9, .slice A11 (s1.Signals).length c12, .slice A14 (s1.Gates).length c15]) :: R = hp' ∧ b.Le b185) ?_ ?_
   ·
    have hm := hj188
    refine c_region ?_
    refine t_st rfl (st_field rfl fld28_0) ?_
    refine t_st rfl (st_load 0 rfl one22 rfl rfl) ?_
    refine t_st rfl (st_len rfl sl22) ?_
    refine t_bool rfl (st_gtr rfl rfl) (fun hc189 => ?_) (fun hc189 => ?_)
    ·
     rw [if_pos hc189] at hm
     refine t_mv rfl rfl ?_
     refine t_no 21 rfl rfl rfl rfl rfl ?_
     refine t_no 21 rfl rfl rfl rfl rfl ?_
     refine t_no 21 rfl rfl rfl rfl rfl ?_
     refine t_no 21 rfl rfl rfl rfl rfl ?_
     refine t_st rfl (st_pick_t rfl rfl) ?_
     refine t_mv rfl rfl ?_
     refine t_no 27 rfl rfl rfl rfl rfl ?_
     refine t_no 27 rfl rfl rfl rfl rfl ?_
     refine t_no 27 rfl rfl rfl rfl rfl ?_
     refine t_no 27 rfl rfl rfl rfl rfl ?_
     refine t_st rfl (st_pick_t rfl rfl) ?_
     refine t_mv rfl rfl ?_
     refine t_no 33 rfl rfl rfl rfl rfl ?_
     refine t_no 33 rfl rfl rfl rfl rfl ?_
     refine t_no 33 rfl rfl rfl rfl rfl ?_
     refine t_no 33 rfl rfl rfl rfl rfl ?_
     refine t_st rfl (st_pick_t rfl rfl) ?_
     refine t_mv rfl rfl ?_
     refine t_no 39 rfl rfl rfl rfl rfl ?_
     refine t_no 39 rfl rfl rfl rfl rfl ?_
     refine t_no 39 rfl rfl rfl rfl rfl ?_
     refine t_no 39 rfl rfl rfl rfl rfl ?_
     refine t_st rfl (st_pick_t rfl rfl) ?_
     refine t_as rfl rfl ?_
     refine t_nil ?_
     obtain rfl := some1 hm
     exact x_join (e' := [(1, .pointer (some ⟨g179, 0, none⟩)), (16, .bool (true))]) ⟨rfl, rfl, trivial⟩ (.refl _) ⟨rfl, rfl, (Base.Le.refl _)⟩
    ·
     rw [if_neg hc189] at hm
     refine t_mv rfl rfl ?_
     refine t_yes 21 rfl rfl rfl ?_
     refine t_st rfl (st_field rfl fld28_1) ?_
     refine t_yes 21 rfl rfl rfl ?_
     refine t_st rfl (st_load 0 rfl one23 rfl rfl) ?_
     refine t_yes 21 rfl rfl rfl ?_
     refine t_st rfl (st_len rfl sl23) ?_
     refine t_yes 21 rfl rfl rfl ?_
     refine t_bool rfl (st_gtr rfl rfl) (fun hc190 => ?_) (fun hc190 => ?_)
     ·
      rw [if_pos hc190] at hm
      refine t_st rfl (st_pick_f rfl rfl) ?_
      refine t_mv rfl rfl ?_
      refine t_no 27 rfl rfl rfl rfl rfl ?_
      refine t_no 27 rfl rfl rfl rfl rfl ?_
      refine t_no 27 rfl rfl rfl rfl rfl ?_
      refine t_no 27 rfl rfl rfl rfl rfl ?_
      refine t_st rfl (st_pick_t rfl rfl) ?_
      refine t_mv rfl rfl ?_
      refine t_no 33 rfl rfl rfl rfl rfl ?_
      refine t_no 33 rfl rfl rfl rfl rfl ?_
      refine t_no 33 rfl rfl rfl rfl rfl ?_
      refine t_no 33 rfl rfl rfl rfl rfl ?_
      refine t_st rfl (st_pick_t rfl rfl) ?_
      refine t_mv rfl rfl ?_
      refine t_no 39 rfl rfl rfl rfl rfl ?_
      refine t_no 39 rfl rfl rfl rfl rfl ?_
      refine t_no 39 rfl rfl rfl rfl rfl ?_
      refine t_no 39 rfl rfl rfl rfl rfl ?_
      refine t_st rfl (st_pick_t rfl rfl) ?_
      refine t_as rfl rfl ?_
      refine t_nil ?_
      obtain rfl := some1 hm
      exact x_join (e' := [(1, .pointer (some ⟨g179, 0, none⟩)), (16, .bool (true))]) ⟨rfl, rfl, trivial⟩ (.refl _) ⟨rfl, rfl, (Base.Le.refl _)⟩
     ·
      rw [if_neg hc190] at hm
      refine t_st rfl (st_pick_f rfl rfl) ?_
      refine t_mv rfl rfl ?_
      refine t_yes 27 rfl rfl rfl ?_
      refine t_st rfl (st_field rfl fld28_2) ?_
      refine t_yes 27 rfl rfl rfl ?_
      refine t_st rfl (st_load 0 rfl one24 rfl rfl) ?_
      refine t_yes 27 rfl rfl rfl ?_
      refine t_st rfl (st_len rfl sl24) ?_
      refine t_yes 27 rfl rfl rfl ?_
      refine t_bool rfl (st_gtr rfl rfl) (fun hc191 => ?_) (fun hc191 => ?_)
      ·
       rw [if_pos hc191] at hm
       refine t_st rfl (st_pick_f rfl rfl) ?_
       refine t_mv rfl rfl ?_
       refine t_no 33 rfl rfl rfl rfl rfl ?_
       refine t_no 33 rfl rfl rfl rfl rfl ?_
       refine t_no 33 rfl rfl rfl rfl rfl ?_
       refine t_no 33 rfl rfl rfl rfl rfl ?_
       refine t_st rfl (st_pick_t rfl rfl) ?_
       refine t_mv rfl rfl ?_
       refine t_no 39 rfl rfl rfl rfl rfl ?_
       refine t_no 39 rfl rfl rfl rfl rfl ?_
       refine t_no 39 rfl rfl rfl rfl rfl ?_
       refine t_no 39 rfl rfl rfl rfl rfl ?_
       refine t_st rfl (st_pick_t rfl rfl) ?_
       refine t_as rfl rfl ?_
       refine t_nil ?_
       obtain rfl := some1 hm
       exact x_join (e' := [(1, .pointer (some ⟨g179, 0, none⟩)), (16, .bool (true))]) ⟨rfl, rfl, trivial⟩ (.refl _) ⟨rfl, rfl, (Base.Le.refl _)⟩
      ·
       rw [if_neg hc191] at hm
       refine t_st rfl (st_pick_f rfl rfl) ?_
       refine t_mv rfl rfl ?_
       refine t_yes 33 rfl rfl rfl ?_
       refine t_st rfl (st_field rfl fld28_3) ?_
       refine t_yes 33 rfl rfl rfl ?_
       refine t_st rfl (st_load 0 rfl one25 rfl rfl) ?_
       refine t_yes 33 rfl rfl rfl ?_
       refine t_st rfl (st_len rfl sl25) ?_
       refine t_yes 33 rfl rfl rfl ?_
       refine t_bool rfl (st_gtr rfl rfl) (fun hc192 => ?_) (fun hc192 => ?_)
       ·
        rw [if_pos hc192] at hm
        refine t_st rfl (st_pick_f rfl rfl) ?_
        refine t_mv rfl rfl ?_
        refine t_no 39 rfl rfl rfl rfl rfl ?_
        refine t_no 39 rfl rfl rfl rfl rfl ?_
        refine t_no 39 rfl rfl rfl rfl rfl ?_
        refine t_no 39 rfl rfl rfl rfl rfl ?_
        refine t_st rfl (st_pick_t rfl rfl) ?_
        refine t_as rfl rfl ?_
        refine t_nil ?_
        obtain rfl := some1 hm
        exact x_join (e' := [(1, .pointer (some ⟨g179, 0, none⟩)), (16, .bool (true))]) ⟨rfl, rfl, trivial⟩ (.refl _) ⟨rfl, rfl, (Base.Le.refl _)⟩
       ·
        rw [if_neg hc192] at hm
        refine t_st rfl (st_pick_f rfl rfl) ?_
        refine t_mv rfl rfl ?_
        refine t_yes 39 rfl rfl rfl ?_
        refine t_st rfl (st_field rfl fld28_4) ?_
        refine t_yes 39 rfl rfl rfl ?_
        refine t_st rfl (st_load 0 rfl one26 rfl rfl) ?_
        refine t_yes 39 rfl rfl rfl ?_
        refine t_st rfl (st_len rfl sl26) ?_
        refine t_yes 39 rfl rfl rfl ?_
        refine t_st rfl (st_gtr rfl rfl) ?_
        refine t_st rfl (st_pick_f rfl rfl) ?_
        refine t_as rfl rfl ?_
        refine t_nil ?_
        obtain rfl := some1 hm
        exact x_join (e' := [(1, .pointer (some ⟨g179, 0, none⟩)), (16, .bool (decide (8 < (s1.Gates.length : Int))))]) ⟨rfl, rfl, trivial⟩ (.refl _) ⟨rfl, rfl, (Base.Le.refl _)⟩
   ·
    rintro b185 _ _ ⟨rfl, rfl, hle186⟩
    have hm := hk188
    refine c_cond _ rfl (fun hc193 => ?_) (fun hc193 => ?_)
    ·
     rw [if_pos hc193] at hm
     refine c_sr ?_
     refine t_as rfl rfl ?_
     refine t_ne ?_
     refine c_ret ?_
     refine x_block_ret ?_
     refine x_then_ret ?_
     obtain rfl := some1 hm
     exact retM (rs := [.tmp 2]) [.int .i64 (4)] hle186 (by decide) rfl ⟨rfl, trivial⟩ rfl (.cons _ (.refl _)) ⟨rfl, rfl⟩
    ·
     rw [if_neg (fun hh => Bool.noConfusion (hh.symm.trans hc193))] at hm
     refine c_skip ?_
     refine x_block_normal ?_
     refine x_then_normal ?_
     refine c_seq ?_
     refine c_sr ?_
     refine t_st rfl (st_field rfl fld28_0) ?_
     refine t_st rfl (st_load 0 rfl one22 rfl rfl) ?_
     refine t_st rfl (st_len rfl sl22) ?_
     refine t_mv rfl rfl ?_
     refine t_ne ?_
     refine c_block ?_
     have hb195 : s1.Stations.length ≤ 9223372036854775807 := (FZ.bd (h4.le hle186))
     obtain ⟨t230, hl231, hk232⟩ := bindS hm
     refine c_forM (fun k229 => fun _ => fun b227 e' hp' => [(1, .pointer (some ⟨g179, 0, none⟩)), (46, .slice A2 (s1.Stations).length c3), (47, .int .i64 ((s1.Stations.length : Int))), (48, .int .i64 ((k229 : Int)))] = e' ∧ (g179, Cl 28 [.slice A2 (s1.Stations).length c3, .slice A5 (s1.Sections).length c6, .slice A8 (s1.Links).length c9, .slice A11 (s1.Signals).length c12, .slice A14 (s1.Gates).length c15]) :: R = hp' ∧ b185.Le b227) hl231 (e' := [(1, .pointer (some ⟨g179, 0, none⟩)), (46, .slice A2 (s1.Stations).length c3), (47, .int .i64 ((s1.Stations.length : Int))), (48, .int .i64 0)]) ⟨rfl, rfl, rfl, rfl, trivial⟩ (.refl _) ⟨rfl, rfl, (Base.Le.refl _)⟩ ?_ ?_
     ·
      rintro k229 _ b227 _ _ oL194 hknL194 ⟨rfl, rfl, hle228⟩ hstepL194 houtL194
      unfold mLineCheck_L194 at hstepL194
      have hm := hstepL194
      refine c_sr ?_
      refine t_st rfl (st_lss_t rfl rfl (by omega)) ?_
      refine t_ne ?_
      refine c_seq ?_
      refine c_cond_t rfl ?_
      refine c_skip ?_
      refine x_then_normal ?_
      refine c_seq ?_
      refine c_block ?_
      refine c_sr ?_
      refine t_mv rfl rfl ?_
      obtain ⟨x233, h234, hm⟩ := bindS hm
      obtain ⟨j235, hj236, hx237⟩ := idx_some h234
      obtain ⟨cs238, hr239, hcs240, hA241, hlt242⟩ := FZ.get (sz := 1) rfl (by decide) (h4.le (hle186.trans hle228)) hx237
      obtain rfl := hr239
      refine t_st rfl (st_index_old j235 rfl rfl hj236 hlt242 hA241 sl22) ?_
      refine t_st rfl (st_load_old rfl one9 (hcs240 0 _ rfl)) ?_
      refine t_as rfl rfl ?_
      refine t_as rfl rfl ?_
      refine t_ne ?_
      refine c_block ?_
      refine c_sr ?_
      refine t_mv rfl rfl ?_
      obtain ⟨x243, hcl244, hm⟩ := bindS hm
      refine t_do rfl (u_callW0 _ call35 rfl (fun w ho => cLineName _ [] x233 x243 hcl244) (fun _ _ _ h => h.2.symm)) ?_
      rintro _ _ ⟨⟨_, rfl, _⟩, rfl⟩
      refine t_st rfl (st_not rfl) ?_
      refine t_as rfl rfl ?_
      refine t_ne ?_
      refine c_cond _ rfl (fun hc245 => ?_) (fun hc245 => ?_)
      ·
       rw [if_neg (fun hh => Bool.noConfusion (hh.symm.trans (notT hc245)))] at hm
       refine c_sr ?_
       refine t_as rfl rfl ?_
       refine t_ne ?_
       refine c_ret ?_
       refine x_block_ret ?_
       refine x_block_ret ?_
       refine x_then_ret ?_
       refine x_then_ret ?_
       refine x_block_ret ?_
       refine x_then_ret ?_
       have hq246 := houtL194 _ (Option.some.inj hm).symm
       rw [hq246] at hk232
       have hm := elimR hk232
       obtain rfl := some1 hm
       exact retM (rs := [.tmp 2]) [.int .i64 (1)] (hle186.trans hle228) (by decide) rfl ⟨rfl, trivial⟩ rfl (.cons _ (.refl _)) ⟨rfl, rfl⟩
      ·
       rw [if_pos (notF hc245)] at hm
       refine c_sr ?_
       refine t_st rfl (st_field rfl fld28_0) ?_
       refine t_st rfl (st_load 0 rfl one22 rfl rfl) ?_
       refine t_mv rfl rfl ?_
       obtain ⟨l247, h248, hm⟩ := bindS hm
       obtain ⟨j249, j250, hj251, hj252, hj253, hj254, hx255⟩ := cutS_some h248
       have h256 := FZ.sub (sz := 1) rfl (h4.le (hle186.trans hle228)) hj253 hj254
       have h257 := (h4.le (hle186.trans hle228)).1.1
       rw [← hx255] at h256
       refine t_st rfl (hx255 ▸ st_part (l := s1.Stations) j249 j250 rfl (.inl ⟨rfl, by omega⟩) (.inr ⟨_, _, _, rfl, rfl, hj252⟩) hj253 hj254 h257 sl22) ?_
       refine t_mv rfl rfl ?_
       obtain ⟨x262, hcl263, hm⟩ := bindS hm
       refine t_do rfl (u_callW0 _ call36 rfl (fun w ho => cSlicesContains _ [] l247 x233 (subA A2 c3 j249 1) (c3 - j249) (h256.old ho) x262 hcl263) (fun _ _ _ h => h.2.symm)) ?_
       rintro _ _ ⟨⟨_, rfl, _⟩, rfl⟩
       refine t_as rfl rfl ?_
       refine t_ne ?_
       refine c_cond _ rfl (fun hc264 => ?_) (fun hc264 => ?_)
       ·
        rw [if_pos hc264] at hm
        refine c_sr ?_
        refine t_as rfl rfl ?_
        refine t_ne ?_
        refine c_ret ?_
        refine x_block_ret ?_
        refine x_block_ret ?_
        refine x_then_ret ?_
        refine x_then_ret ?_
        refine x_block_ret ?_
        refine x_then_ret ?_
        have hq265 := houtL194 _ (Option.some.inj hm).symm
        rw [hq265] at hk232
        have hm := elimR hk232
        obtain rfl := some1 hm
        exact retM (rs := [.tmp 2]) [.int .i64 (6)] (hle186.trans hle228) (by decide) rfl ⟨rfl, trivial⟩ rfl (.cons _ (.refl _)) ⟨rfl, rfl⟩
       ·
        rw [if_neg (fun hh => Bool.noConfusion (hh.symm.trans hc264))] at hm
        refine c_skip ?_
        refine x_block_normal ?_
        refine x_block_normal ?_
        refine x_then_normal ?_
        refine c_region ?_
        refine t_st rfl (st_add rfl rfl (by omega)) ?_
        refine t_mv rfl rfl ?_
        refine t_nil ?_
        exact x_againM () (Option.some.inj hm).symm (e' := [(1, .pointer (some ⟨g179, 0, none⟩)), (46, .slice A2 (s1.Stations).length c3), (47, .int .i64 ((s1.Stations.length : Int))), (48, .int .i64 ((k229 : Int) + 1))]) ⟨rfl, rfl, rfl, rfl, trivial⟩ (.refl _) ⟨rfl, rfl, (hle228)⟩
     ·
      rintro _ b227 _ _ ⟨rfl, rfl, hle228⟩ hq266
      rw [hq266] at hk232
      have hm := elimL hk232
      refine c_sr ?_
      refine t_st rfl (st_lss_f rfl rfl (by omega)) ?_
      refine t_ne ?_
      refine c_seq ?_
      refine c_cond_f rfl ?_
      refine c_exit ?_
      refine x_then_exit ?_
      refine x_then_exit ?_
      refine x_block_out ?_
      refine x_then_normal ?_
      refine c_seq ?_
      refine c_sr ?_
      refine t_st rfl (st_field rfl fld28_1) ?_
      refine t_st rfl (st_load 0 rfl one23 rfl rfl) ?_
      refine t_st rfl (st_len rfl sl23) ?_
      refine t_mv rfl rfl ?_
      refine t_ne ?_
      refine c_block ?_
      have hb268 : s1.Sections.length ≤ 9223372036854775807 := (FZ.bd (h7.le (hle186.trans hle228)))
      obtain ⟨t286, hl287, hk288⟩ := bindS hm
      refine c_forM (fun k285 => fun _ => fun b283 e' hp' => [(1, .pointer (some ⟨g179, 0, none⟩)), (66, .slice A5 (s1.Sections).length c6), (67, .int .i64 ((s1.Sections.length : Int))), (68, .int .i64 ((k285 : Int)))] = e' ∧ (g179, Cl 28 [.slice A2 (s1.Stations).length c3, .slice A5 (s1.Sections).length c6, .slice A8 (s1.Links).length c9, .slice A11 (s1.Signals).length c12, .slice A14 (s1.Gates).length c15]) :: R = hp' ∧ b227.Le b283) hl287 (e' := [(1, .pointer (some ⟨g179, 0, none⟩)), (66, .slice A5 (s1.Sections).length c6), (67, .int .i64 ((s1.Sections.length : Int))), (68, .int .i64 0)]) ⟨rfl, rfl, rfl, rfl, trivial⟩ (.refl _) ⟨rfl, rfl, (Base.Le.refl _)⟩ ?_ ?_
      ·
       rintro k285 _ b283 _ _ oL267 hknL267 ⟨rfl, rfl, hle284⟩ hstepL267 houtL267
       unfold mLineCheck_L267 at hstepL267
       have hm := hstepL267
       refine c_sr ?_
       refine t_st rfl (st_lss_t rfl rfl (by omega)) ?_
       refine t_ne ?_
       refine c_seq ?_
       refine c_cond_t rfl ?_
       refine c_skip ?_
       refine x_then_normal ?_
       refine c_seq ?_
       refine c_block ?_
       refine c_sr ?_
       obtain ⟨x289, h290, hm⟩ := bindS hm
       obtain ⟨j291, hj292, hx293⟩ := idx_some h290
       obtain ⟨cs294, hr295, hcs296, hA297, hlt298⟩ := FZ.get (sz := 7) rfl (by decide) (h7.le (hle186.trans (hle228.trans hle284))) hx293
       obtain ⟨_, _, rfl, rfl, ⟨_, _, rfl, rfl, ⟨_, _, rfl, rfl, ⟨_, _, rfl, rfl, ⟨_, _, rfl, rfl, ⟨_, _, rfl, rfl, rfl⟩⟩⟩⟩⟩⟩ := hr295
       refine t_st rfl (st_index_old j291 rfl rfl hj292 hlt298 hA297 sl23) ?_
       refine t_st rfl (st_loadN_old (vs := [.int .i64 (x289.Kind), .int .i64 (x289.Length), .int .i64 (x289.Grade), .int .i64 (x289.Speed), .int .i64 (x289.Slow), .int .i64 (x289.Station), .bool (x289.Axles)]) 7 rfl agg58 hA297 rfl (fun j u hu => hcs296 j u hu)) ?_
       refine t_do rfl (u_alloc [.int .i64 0, .int .i64 0, .int .i64 0, .int .i64 0, .int .i64 0, .int .i64 0, .bool false] zero58 rfl) ?_
       rintro _ _ ⟨g299, rfl, rfl⟩
       refine t_do rfl (u_storeN (vs := [_, _, _, _, _, _, _]) 0 7 rfl rfl rfl siz58 rfl (mem_c rfl (mem_c rfl (mem_c rfl (mem_c rfl (mem_c rfl (mem_c rfl (mem_c rfl mem_n))))))) rfl (by simp)) ?_
       rintro _ _ rfl
       refine t_ne ?_
       refine c_sr ?_
       refine t_st rfl (st_loadD (vs := [_, _, _, _, _, _, _]) 0 7 rfl agg58 rfl rfl rfl) ?_
       refine t_st rfl (st_field rfl fld28_0) ?_
       refine t_st rfl (st_load 1 rfl one22 rfl rfl) ?_
       refine t_st rfl (st_len rfl sl22) ?_
       obtain ⟨x300, hcl301, hm⟩ := bindS hm
       refine t_do rfl (u_callW0 _ call37 rfl (fun w ho => cLineCheckSection _ [] x289 (s1.Stations.length : Int) x300 hcl301) (fun _ _ _ h => h.2.symm)) ?_
       rintro _ _ ⟨⟨_, rfl, _⟩, rfl⟩
       refine t_as rfl rfl ?_
       refine t_ne ?_
       refine c_sr ?_
       refine t_mv rfl rfl ?_
       refine t_st rfl (st_neq rfl rfl) ?_
       refine t_ne ?_
       refine c_cond _ rfl (fun hc302 => ?_) (fun hc302 => ?_)
       ·
        rw [if_pos (of_decide_eq_true hc302)] at hm
        refine c_sr ?_
        refine t_mv rfl rfl ?_
        refine t_as rfl rfl ?_
        refine t_ne ?_
        refine c_ret ?_
        refine x_block_ret ?_
        refine x_then_ret ?_
        refine x_then_ret ?_
        refine x_block_ret ?_
        refine x_then_ret ?_
        have hq303 := houtL267 _ (Option.some.inj hm).symm
        rw [hq303] at hk288
        have hm := elimR hk288
        obtain rfl := some1 hm
        exact retM (rs := [.tmp 2]) [.int .i64 (x300)] (hle186.trans (hle228.trans hle284)) (by decide) rfl ⟨rfl, trivial⟩ rfl (.cons _ (.cons _ (.refl _))) ⟨rfl, rfl⟩
       ·
        rw [if_neg (of_decide_eq_false hc302)] at hm
        refine c_skip ?_
        refine x_block_normal ?_
        refine x_then_normal ?_
        refine c_region ?_
        refine t_st rfl (st_add rfl rfl (by omega)) ?_
        refine t_mv rfl rfl ?_
        refine t_nil ?_
        refine x_pullb 1 rfl ?_
        exact x_againM () (Option.some.inj hm).symm (e' := [(1, .pointer (some ⟨g179, 0, none⟩)), (66, .slice A5 (s1.Sections).length c6), (67, .int .i64 ((s1.Sections.length : Int))), (68, .int .i64 ((k285 : Int) + 1))]) ⟨rfl, rfl, rfl, rfl, trivial⟩ (.cons_cons _ (.cons _ (.refl _))) ⟨rfl, rfl, (hle284)⟩
      ·
       rintro _ b283 _ _ ⟨rfl, rfl, hle284⟩ hq304
       rw [hq304] at hk288
       have hm := elimL hk288
       refine c_sr ?_
       refine t_st rfl (st_lss_f rfl rfl (by omega)) ?_
       refine t_ne ?_
       refine c_seq ?_
       refine c_cond_f rfl ?_
       refine c_exit ?_
       refine x_then_exit ?_
       refine x_then_exit ?_
       refine x_block_out ?_
       refine x_then_normal ?_
       refine c_seq ?_
       refine c_sr ?_
       refine t_st rfl (st_build (v := .agg #[.func (.func 38) #[] #[], .func (.func 39) #[] #[], .func (.func 40) #[] #[]]) [(0, .func (.func 38) #[] #[]), (1, .func (.func 39) #[] #[]), (2, .func (.func 40) #[] #[])] rfl (fun _ => by kernel_rfl)) ?_
       refine t_mv rfl rfl ?_
       refine t_ne ?_
       refine c_block ?_
       obtain ⟨t321, hl322, hk323⟩ := bindS hm
       refine c_forM (fun k320 => fun _ => fun b318 e' hp' => [(1, .pointer (some ⟨g179, 0, none⟩)), (81, .agg #[.func (.func 38) #[] #[], .func (.func 39) #[] #[], .func (.func 40) #[] #[]]), (82, .int .i64 ((k320 : Int)))] = e' ∧ (g179, Cl 28 [.slice A2 (s1.Stations).length c3, .slice A5 (s1.Sections).length c6, .slice A8 (s1.Links).length c9, .slice A11 (s1.Signals).length c12, .slice A14 (s1.Gates).length c15]) :: R = hp' ∧ b283.Le b318) hl322 (e' := [(1, .pointer (some ⟨g179, 0, none⟩)), (81, .agg #[.func (.func 38) #[] #[], .func (.func 39) #[] #[], .func (.func 40) #[] #[]]), (82, .int .i64 0)]) ⟨rfl, rfl, rfl, trivial⟩ (.refl _) ⟨rfl, rfl, (Base.Le.refl _)⟩ ?_ ?_
       ·
        rintro k320 _ b318 _ _ oL305 hknL305 ⟨rfl, rfl, hle319⟩ hstepL305 houtL305
        unfold mLineCheck_L305 at hstepL305
        have hm := hstepL305
        refine c_sr ?_
        refine t_st rfl (st_lss_t rfl rfl (by omega)) ?_
        refine t_ne ?_
        refine c_seq ?_
        refine c_cond_t rfl ?_
        refine c_skip ?_
        refine x_then_normal ?_
        refine c_seq ?_
        refine c_block ?_
        refine c_sr ?_
        rcases Decidable.em ((k320 : Int) = (0 : Int)) with hi324 | hi324
        ·
         rw [if_pos hi324] at hm
         refine t_st rfl (st_aidx1 (cs := [.func (.func 38) #[] #[], .func (.func 39) #[] #[], .func (.func 40) #[] #[]]) 0 rfl rfl hi324 (by decide) rfl arr102 one52) ?_
         refine t_as rfl rfl ?_
         refine t_ne ?_
         refine c_sr ?_
         refine t_mv rfl rfl ?_
         refine t_st rfl (st_loadD (vs := [_, _, _, _, _]) 0 5 rfl agg28 rfl rfl rfl) ?_
         obtain ⟨x325, hcl326, hm⟩ := bindS hm
         refine t_do rfl (u_callvW0 #[] #[] [.agg #[.slice A2 (s1.Stations).length c3, .slice A5 (s1.Sections).length c6, .slice A8 (s1.Links).length c9, .slice A11 (s1.Signals).length c12, .slice A14 (s1.Gates).length c15]] rfl call38 rfl (fun w ho => cLineCheckLinks _ [] s1 A2 c3 A5 c6 A8 c9 A11 c12 A14 c15 ((h4.le (hle186.trans (hle228.trans (hle284.trans hle319)))).old ho) ((h7.le (hle186.trans (hle228.trans (hle284.trans hle319)))).old ho) ((h10.le (hle186.trans (hle228.trans (hle284.trans hle319)))).old ho) ((h13.le (hle186.trans (hle228.trans (hle284.trans hle319)))).old ho) ((h16.le (hle186.trans (hle228.trans (hle284.trans hle319)))).old ho) x325 hcl326) (fun _ _ _ h => h.2.symm)) ?_
         rintro _ _ ⟨⟨_, rfl, _⟩, rfl⟩
         refine t_as rfl rfl ?_
         refine t_ne ?_
         refine c_sr ?_
         refine t_mv rfl rfl ?_
         refine t_st rfl (st_neq rfl rfl) ?_
         refine t_ne ?_
         refine c_cond _ rfl (fun hc327 => ?_) (fun hc327 => ?_)
         ·
          rw [if_pos (of_decide_eq_true hc327)] at hm
          refine c_sr ?_
          refine t_mv rfl rfl ?_
          refine t_as rfl rfl ?_
          refine t_ne ?_
          refine c_ret ?_
          refine x_block_ret ?_
          refine x_then_ret ?_
          refine x_then_ret ?_
          refine x_block_ret ?_
          refine x_then_ret ?_
          have hq328 := houtL305 _ (Option.some.inj hm).symm
          rw [hq328] at hk323
          have hm := elimR hk323
          obtain rfl := some1 hm
          exact retM (rs := [.tmp 2]) [.int .i64 (x325)] (hle186.trans (hle228.trans (hle284.trans hle319))) (by decide) rfl ⟨rfl, trivial⟩ rfl (.cons _ (.refl _)) ⟨rfl, rfl⟩
         ·
          rw [if_neg (of_decide_eq_false hc327)] at hm
          refine c_skip ?_
          refine x_block_normal ?_
          refine x_then_normal ?_
          refine c_region ?_
          refine t_st rfl (st_add rfl rfl (by omega)) ?_
          refine t_mv rfl rfl ?_
          refine t_nil ?_
          exact x_againM () (Option.some.inj hm).symm (e' := [(1, .pointer (some ⟨g179, 0, none⟩)), (81, .agg #[.func (.func 38) #[] #[], .func (.func 39) #[] #[], .func (.func 40) #[] #[]]), (82, .int .i64 ((k320 : Int) + 1))]) ⟨rfl, rfl, rfl, trivial⟩ (.refl _) ⟨rfl, rfl, (hle319)⟩
        ·
         rw [if_neg hi324] at hm
         rcases Decidable.em ((k320 : Int) = (1 : Int)) with hi329 | hi329
         ·
          rw [if_pos hi329] at hm
          refine t_st rfl (st_aidx1 (cs := [.func (.func 38) #[] #[], .func (.func 39) #[] #[], .func (.func 40) #[] #[]]) 1 rfl rfl hi329 (by decide) rfl arr102 one52) ?_
          refine t_as rfl rfl ?_
          refine t_ne ?_
          refine c_sr ?_
          refine t_mv rfl rfl ?_
          refine t_st rfl (st_loadD (vs := [_, _, _, _, _]) 0 5 rfl agg28 rfl rfl rfl) ?_
          obtain ⟨x330, hcl331, hm⟩ := bindS hm
          refine t_do rfl (u_callvW0 #[] #[] [.agg #[.slice A2 (s1.Stations).length c3, .slice A5 (s1.Sections).length c6, .slice A8 (s1.Links).length c9, .slice A11 (s1.Signals).length c12, .slice A14 (s1.Gates).length c15]] rfl call39 rfl (fun w ho => cLineCheckSignals _ [] s1 A2 c3 A5 c6 A8 c9 A11 c12 A14 c15 ((h4.le (hle186.trans (hle228.trans (hle284.trans hle319)))).old ho) ((h7.le (hle186.trans (hle228.trans (hle284.trans hle319)))).old ho) ((h10.le (hle186.trans (hle228.trans (hle284.trans hle319)))).old ho) ((h13.le (hle186.trans (hle228.trans (hle284.trans hle319)))).old ho) ((h16.le (hle186.trans (hle228.trans (hle284.trans hle319)))).old ho) x330 hcl331) (fun _ _ _ h => h.2.symm)) ?_
          rintro _ _ ⟨⟨_, rfl, _⟩, rfl⟩
          refine t_as rfl rfl ?_
          refine t_ne ?_
          refine c_sr ?_
          refine t_mv rfl rfl ?_
          refine t_st rfl (st_neq rfl rfl) ?_
          refine t_ne ?_
          refine c_cond _ rfl (fun hc332 => ?_) (fun hc332 => ?_)
          ·
           rw [if_pos (of_decide_eq_true hc332)] at hm
           refine c_sr ?_
           refine t_mv rfl rfl ?_
           refine t_as rfl rfl ?_
           refine t_ne ?_
           refine c_ret ?_
           refine x_block_ret ?_
           refine x_then_ret ?_
           refine x_then_ret ?_
           refine x_block_ret ?_
           refine x_then_ret ?_
           have hq333 := houtL305 _ (Option.some.inj hm).symm
           rw [hq333] at hk323
           have hm := elimR hk323
           obtain rfl := some1 hm
           exact retM (rs := [.tmp 2]) [.int .i64 (x330)] (hle186.trans (hle228.trans (hle284.trans hle319))) (by decide) rfl ⟨rfl, trivial⟩ rfl (.cons _ (.refl _)) ⟨rfl, rfl⟩
          ·
           rw [if_neg (of_decide_eq_false hc332)] at hm
           refine c_skip ?_
           refine x_block_normal ?_
           refine x_then_normal ?_
           refine c_region ?_
           refine t_st rfl (st_add rfl rfl (by omega)) ?_
           refine t_mv rfl rfl ?_
           refine t_nil ?_
           exact x_againM () (Option.some.inj hm).symm (e' := [(1, .pointer (some ⟨g179, 0, none⟩)), (81, .agg #[.func (.func 38) #[] #[], .func (.func 39) #[] #[], .func (.func 40) #[] #[]]), (82, .int .i64 ((k320 : Int) + 1))]) ⟨rfl, rfl, rfl, trivial⟩ (.refl _) ⟨rfl, rfl, (hle319)⟩
         ·
          rw [if_neg hi329] at hm
          rcases Decidable.em ((k320 : Int) = (2 : Int)) with hi334 | hi334
          ·
           rw [if_pos hi334] at hm
           refine t_st rfl (st_aidx1 (cs := [.func (.func 38) #[] #[], .func (.func 39) #[] #[], .func (.func 40) #[] #[]]) 2 rfl rfl hi334 (by decide) rfl arr102 one52) ?_
           refine t_as rfl rfl ?_
           refine t_ne ?_
           refine c_sr ?_
           refine t_mv rfl rfl ?_
           refine t_st rfl (st_loadD (vs := [_, _, _, _, _]) 0 5 rfl agg28 rfl rfl rfl) ?_
           obtain ⟨x335, hcl336, hm⟩ := bindS hm
           refine t_do rfl (u_callvW0 #[] #[] [.agg #[.slice A2 (s1.Stations).length c3, .slice A5 (s1.Sections).length c6, .slice A8 (s1.Links).length c9, .slice A11 (s1.Signals).length c12, .slice A14 (s1.Gates).length c15]] rfl call40 rfl (fun w ho => cLineCheckGates _ [] s1 A2 c3 A5 c6 A8 c9 A11 c12 A14 c15 ((h4.le (hle186.trans (hle228.trans (hle284.trans hle319)))).old ho) ((h7.le (hle186.trans (hle228.trans (hle284.trans hle319)))).old ho) ((h10.le (hle186.trans (hle228.trans (hle284.trans hle319)))).old ho) ((h13.le (hle186.trans (hle228.trans (hle284.trans hle319)))).old ho) ((h16.le (hle186.trans (hle228.trans (hle284.trans hle319)))).old ho) x335 hcl336) (fun _ _ _ h => h.2.symm)) ?_
           rintro _ _ ⟨⟨_, rfl, _⟩, rfl⟩
           refine t_as rfl rfl ?_
           refine t_ne ?_
           refine c_sr ?_
           refine t_mv rfl rfl ?_
           refine t_st rfl (st_neq rfl rfl) ?_
           refine t_ne ?_
           refine c_cond _ rfl (fun hc337 => ?_) (fun hc337 => ?_)
           ·
            rw [if_pos (of_decide_eq_true hc337)] at hm
            refine c_sr ?_
            refine t_mv rfl rfl ?_
            refine t_as rfl rfl ?_
            refine t_ne ?_
            refine c_ret ?_
            refine x_block_ret ?_
            refine x_then_ret ?_
            refine x_then_ret ?_
            refine x_block_ret ?_
            refine x_then_ret ?_
            have hq338 := houtL305 _ (Option.some.inj hm).symm
            rw [hq338] at hk323
            have hm := elimR hk323
            obtain rfl := some1 hm
            exact retM (rs := [.tmp 2]) [.int .i64 (x335)] (hle186.trans (hle228.trans (hle284.trans hle319))) (by decide) rfl ⟨rfl, trivial⟩ rfl (.cons _ (.refl _)) ⟨rfl, rfl⟩
           ·
            rw [if_neg (of_decide_eq_false hc337)] at hm
            refine c_skip ?_
            refine x_block_normal ?_
            refine x_then_normal ?_
            refine c_region ?_
            refine t_st rfl (st_add rfl rfl (by omega)) ?_
            refine t_mv rfl rfl ?_
            refine t_nil ?_
            exact x_againM () (Option.some.inj hm).symm (e' := [(1, .pointer (some ⟨g179, 0, none⟩)), (81, .agg #[.func (.func 38) #[] #[], .func (.func 39) #[] #[], .func (.func 40) #[] #[]]), (82, .int .i64 ((k320 : Int) + 1))]) ⟨rfl, rfl, rfl, trivial⟩ (.refl _) ⟨rfl, rfl, (hle319)⟩
          ·
           rw [if_neg hi334] at hm
           cases hm
       ·
        rintro _ b318 _ _ ⟨rfl, rfl, hle319⟩ hq339
        rw [hq339] at hk323
        have hm := elimL hk323
        refine c_sr ?_
        refine t_st rfl (st_lss_f rfl rfl (by omega)) ?_
        refine t_ne ?_
        refine c_seq ?_
        refine c_cond_f rfl ?_
        refine c_exit ?_
        refine x_then_exit ?_
        refine x_then_exit ?_
        refine x_block_out ?_
        refine x_then_normal ?_
        refine c_sr ?_
        refine t_as rfl rfl ?_
        refine t_ne ?_
        refine c_ret ?_
        obtain rfl := some1 hm
        exact retM (rs := [.tmp 2]) [.int .i64 (0)] (hle186.trans (hle228.trans (hle284.trans hle319))) (by decide) rfl ⟨rfl, trivial⟩ rfl (.cons _ (.refl _)) ⟨rfl, rfl⟩

set_option maxRecDepth 20000 in
theorem cLineRead (b : Base) (R : Hp) (x1 : ByteArray) (l68 : (List ByteArray)) (l73 : (List ApiSection)) (l78 : (List ApiLink)) (l83 : (List ApiSignal)) (l88 : (List ApiGate)) (x90 : Int) (hm : mLineRead x1 = some (l68, l73, l78, l83, l88, x90)) :
    CallsG Tryd.prog 16 [.string (x1)] b (R) (fun v b' hp' => ∃ (A65 : Option Addr), ∃ (c66 : Nat), ∃ (A70 : Option Addr), ∃ (c71 : Nat), ∃ (A75 : Option Addr), ∃ (c76 : Nat), ∃ (A80 : Option Addr), ∃ (c81 : Nat), ∃ (A85 : Option Addr), ∃ (c86 : Nat), .tuple #[.agg #[.slice A65 (l68).length c66, .slice A70 (l73).length c71, .slice A75 (l78).length c76, .slice A80 (l83).length c81, .slice A85 (l88).length c86], .int .i64 (x90)] = v ∧ R = hp' ∧ FZ RT.str b'.w A65 c66 l68 ∧ (A65 = none ↔ l68 = []) ∧ FZ rApiSection b'.w A70 c71 l73 ∧ (A70 = none ↔ l73 = []) ∧ FZ rApiLink b'.w A75 c76 l78 ∧ (A75 = none ↔ l78 = []) ∧ FZ rApiSignal b'.w A80 c81 l83 ∧ (A80 = none ↔ l83 = []) ∧ FZ rApiGate b'.w A85 c86 l88 ∧ (A85 = none ↔ l88 = [])) := by
  refine fn_enterG 45 Tryd.func16 rfl Tryd.ntmps16 rfl ?_
  unfold mLineRead at hm
  refine c_sr ?_
  refine t_do rfl (u_alloc [.slice none 0 0, .slice none 0 0, .slice none 0 0, .slice none 0 0, .slice none 0 0] zero28 rfl) ?_
  rintro _ _ ⟨g91, rfl, rfl⟩
  refine t_as rfl rfl ?_
  refine t_ne ?_
  refine c_seq ?_
  refine c_sr ?_
  refine t_mv rfl rfl ?_
  refine t_st rfl (st_slen rfl str9) ?_
  refine t_st rfl (st_gtr rfl rfl) ?_
  refine t_ne ?_
  refine c_cond _ rfl (fun hc92 => ?_) (fun hc92 => ?_)
  ·
   rw [if_pos (of_decide_eq_true hc92)] at hm
   refine c_sr ?_
   refine t_st rfl (st_build (v := .agg #[.slice none 0 0, .slice none 0 0, .slice none 0 0, .slice none 0 0, .slice none 0 0]) [] rfl (fun _ => by kernel_rfl)) ?_
   refine t_do rfl (u_storeN (vs := [_, _, _, _, _]) 0 5 rfl rfl rfl siz28 rfl (mem_c rfl (mem_c rfl (mem_c rfl (mem_c rfl (mem_c rfl mem_n))))) rfl (by simp)) ?_
   rintro _ _ rfl
   refine t_as rfl rfl ?_
   refine t_ne ?_
   refine c_ret ?_
   refine x_then_ret ?_
   obtain ⟨rfl, rfl, rfl, rfl, rfl, rfl⟩ := some6 hm
   exact retM (rs := [.cell 2 28, .tmp 3]) [.agg #[.slice none 0 0, .slice none 0 0, .slice none 0 0, .slice none 0 0, .slice none 0 0], .int .i64 (4)] (Base.Le.refl _) (by decide) rfl ⟨⟨_, rfl, fun w ho => cell_agg (vs := [_, _, _, _, _]) 0 5 agg28 rfl rfl rfl w ho⟩, ⟨rfl, trivial⟩⟩ rfl (.cons _ (.refl _)) ⟨none, 0, none, 0, none, 0, none, 0, none, 0, rfl, rfl, FZ.nil, ⟨fun _ => rfl, fun _ => rfl⟩, FZ.nil, ⟨fun _ => rfl, fun _ => rfl⟩, FZ.nil, ⟨fun _ => rfl, fun _ => rfl⟩, FZ.nil, ⟨fun _ => rfl, fun _ => rfl⟩, FZ.nil, ⟨fun _ => rfl, fun _ => rfl⟩⟩
  ·
   rw [if_neg (of_decide_eq_false hc92)] at hm
   refine c_skip ?_
   refine x_then_normal ?_
   refine c_sr ?_
   refine t_mv rfl rfl ?_
   obtain ⟨⟨x93, l94⟩, hcl95, hm⟩ := bindS hm
   have hm := (unc2E hm)
   refine t_callG _ rfl call41 rfl (cLineLines _ _ x1 x93 l94 hcl95) ?_
   rintro _ b96 _ hle97 ⟨A98, c99, hs100, rfl, rfl, h101⟩
   refine t_in1 [] [_] hs100 R rfl ?_
   refine t_mv rfl rfl ?_
   refine t_st rfl (st_extract rfl rfl) ?_
   refine t_st rfl (st_extract rfl rfl) ?_
   refine t_as rfl rfl ?_
   refine t_as rfl rfl ?_
   refine t_ne ?_
   refine c_seq ?_
   refine c_sr ?_
   refine t_mv rfl rfl ?_
   refine t_st rfl (st_not rfl) ?_
   refine t_ne ?_
   refine c_cond _ rfl (fun hc102 => ?_) (fun hc102 => ?_)
   ·
    rw [if_neg (fun hh => Bool.noConfusion (hh.symm.trans (notT hc102)))] at hm
    refine c_sr ?_
    refine t_st rfl (st_build (v := .agg #[.slice none 0 0, .slice none 0 0, .slice none 0 0, .slice none 0 0, .slice none 0 0]) [] rfl (fun _ => by kernel_rfl)) ?_
    refine t_do rfl (u_storeN (vs := [_, _, _, _, _]) 0 5 rfl rfl rfl siz28 rfl (mem_c rfl (mem_c rfl (mem_c rfl (mem_c rfl (mem_c rfl mem_n))))) rfl (by simp)) ?_
    rintro _ _ rfl
    refine t_as rfl rfl ?_
    refine t_ne ?_
    refine c_ret ?_
    refine x_then_ret ?_
    obtain ⟨rfl, rfl, rfl, rfl, rfl, rfl⟩ := some6 hm
    exact retM (rs := [.cell 2 28, .tmp 3]) [.agg #[.slice none 0 0, .slice none 0 0, .slice none 0 0, .slice none 0 0, .slice none 0 0], .int .i64 (10)] hle97 (by decide) rfl ⟨⟨_, rfl, fun w ho => cell_agg (vs := [_, _, _, _, _]) 0 5 agg28 rfl rfl rfl w ho⟩, ⟨rfl, trivial⟩⟩ rfl (.cons _ (sub_skip hs100 (.refl _))) ⟨none, 0, none, 0, none, 0, none, 0, none, 0, rfl, rfl, FZ.nil, ⟨fun _ => rfl, fun _ => rfl⟩, FZ.nil, ⟨fun _ => rfl, fun _ => rfl⟩, FZ.nil, ⟨fun _ => rfl, fun _ => rfl⟩, FZ.nil, ⟨fun _ => rfl, fun _ => rfl⟩, FZ.nil, ⟨fun _ => rfl, fun _ => rfl⟩⟩
   ·
    rw [if_pos (notF hc102)] at hm
    refine c_skip ?_
    refine x_then_normal ?_
    refine c_sr ?_
    refine t_do rfl (u_alloc [.slice none 0 0, .slice none 0 0, .slice none 0 0, .slice none 0 0, .slice none 0 0] zero28 rfl) ?_
    rintro _ _ ⟨g103, rfl, rfl⟩
    refine t_ne ?_
    refine c_sr ?_
    refine t_as rfl rfl ?_
    refine t_ne ?_
    refine c_seq ?_
    refine c_sr ?_
    refine t_mv rfl rfl ?_
    refine t_st rfl (st_len rfl sl103) ?_
    refine t_mv rfl rfl ?_
    refine t_ne ?_
    refine c_block ?_
    have hb105 : l94.length ≤ 9223372036854775807 := (OS.len h101)
    refine c_pullb 1 rfl ?_
    obtain ⟨t128, hl129, hk130⟩ := bindS hm
    refine c_forM (fun k127 => fun _ => fun b125 e' hp' => [(2, .pointer (some ⟨g91, 0, none⟩)), (6, .pointer (some ⟨g103, 0, none⟩)), (7, .int .i64 (0)), (24, .slice A98 (l94).length c99), (25, .int .i64 ((l94.length : Int))), (26, .int .i64 ((k127 : Int)))] = e' ∧ (g91, Cl 28 [.slice none 0 0, .slice none 0 0, .slice none 0 0, .slice none 0 0, .slice none 0 0]) :: (g103, Cl 28 [.slice none 0 0, .slice none 0 0, .slice none 0 0, .slice none 0 0, .slice none 0 0]) :: (hs100 ++ R) = hp' ∧ b96.Le b125) hl129 (e' := [(2, .pointer (some ⟨g91, 0, none⟩)), (6, .pointer (some ⟨g103, 0, none⟩)), (7, .int .i64 (0)), (24, .slice A98 (l94).length c99), (25, .int .i64 ((l94.length : Int))), (26, .int .i64 0)]) ⟨rfl, rfl, rfl, rfl, rfl, rfl, trivial⟩ (.refl _) ⟨rfl, rfl, (Base.Le.refl _)⟩ ?_ ?_
    ·
     rintro k127 _ b125 _ _ oL104 hknL104 ⟨rfl, rfl, hle126⟩ hstepL104 houtL104
     unfold mLineRead_L104 at hstepL104
     have hm := hstepL104
     refine c_sr ?_
     refine t_st rfl (st_lss_t rfl rfl (by omega)) ?_
     refine t_ne ?_
     refine c_seq ?_
     refine c_cond_t rfl ?_
     refine c_skip ?_
     refine x_then_normal ?_
     refine c_seq ?_
     refine c_block ?_
     refine c_sr ?_
     obtain ⟨x131, h132, hm⟩ := bindS hm
     obtain ⟨j133, hj134, hx135⟩ := idx_some h132
     obtain ⟨cs136, hs141, P142, P143, hq144, hr137, hcs138, hA139, hlt140, hb145, hho146⟩ := OS.get (sz := 1) rfl (by decide) (h101.le hle126) hx135
     obtain ⟨⟨A147, c148, rfl, h149⟩, rfl⟩ := hr137
     refine t_st rfl (st_index_old j133 rfl rfl hj134 hlt140 hA139 sl103) ?_
     refine t_st rfl (st_load_rd rfl one22 (fun w ho => hcs138 w _ ho (.cons _ (.cons _ (List.sublist_append_left _ _))) 0 _ rfl)) ?_
     refine t_as rfl rfl ?_
     refine t_ne ?_
     refine c_sr ?_
     refine t_mv rfl rfl ?_
     cases hm
    ·
     rintro _ b125 _ _ ⟨rfl, rfl, hle126⟩ hq150
     rw [hq150] at hk130
     have hm := elimL hk130
     refine c_sr ?_
     refine t_st rfl (st_lss_f rfl rfl (by omega)) ?_
     refine t_ne ?_
     refine c_seq ?_
     refine c_cond_f rfl ?_
     refine c_exit ?_
     refine x_then_exit ?_
     refine x_then_exit ?_
     refine x_block_out ?_
     refine x_then_normal ?_
     refine c_seq ?_
     refine c_sr ?_
     refine t_st rfl (st_loadD (vs := [_, _, _, _, _]) 1 5 rfl agg28 rfl rfl rfl) ?_
     obtain ⟨x151, hcl152, hm⟩ := bindS hm
     refine t_do rfl (u_callW0 _ call15 rfl (fun w ho => cLineCheck _ [] (⟨[], [], [], [], []⟩ : ApiNet) none 0 none 0 none 0 none 0 none 0 FZ.nil FZ.nil FZ.nil FZ.nil FZ.nil x151 hcl152) (fun _ _ _ h => h.2.symm)) ?_
     rintro _ _ ⟨⟨_, rfl, _⟩, rfl⟩
     refine t_as rfl rfl ?_
     refine t_ne ?_
     refine c_sr ?_
     refine t_mv rfl rfl ?_
     refine t_st rfl (st_neq rfl rfl) ?_
     refine t_ne ?_
     refine c_cond _ rfl (fun hc153 => ?_) (fun hc153 => ?_)
     ·
      rw [if_pos (of_decide_eq_true hc153)] at hm
      refine c_sr ?_
      refine t_st rfl (st_build (v := .agg #[.slice none 0 0, .slice none 0 0, .slice none 0 0, .slice none 0 0, .slice none 0 0]) [] rfl (fun _ => by kernel_rfl)) ?_
      refine t_mv rfl rfl ?_
      refine t_do rfl (u_storeN (vs := [_, _, _, _, _]) 0 5 rfl rfl rfl siz28 rfl (mem_c rfl (mem_c rfl (mem_c rfl (mem_c rfl (mem_c rfl mem_n))))) rfl (by simp)) ?_
      rintro _ _ rfl
      refine t_as rfl rfl ?_
      refine t_ne ?_
      refine c_ret ?_
      refine x_then_ret ?_
      obtain ⟨rfl, rfl, rfl, rfl, rfl, rfl⟩ := some6 hm
      exact retM (rs := [.cell 2 28, .tmp 3]) [.agg #[.slice none 0 0, .slice none 0 0, .slice none 0 0, .slice none 0 0, .slice none 0 0], .int .i64 (x151)] (hle97.trans hle126) (by decide) rfl ⟨⟨_, rfl, fun w ho => cell_agg (vs := [_, _, _, _, _]) 0 5 agg28 rfl rfl rfl w ho⟩, ⟨rfl, trivial⟩⟩ rfl (.cons _ (.cons _ (sub_skip hs100 (.refl _)))) ⟨none, 0, none, 0, none, 0, none, 0, none, 0, rfl, rfl, FZ.nil, ⟨fun _ => rfl, fun _ => rfl⟩, FZ.nil, ⟨fun _ => rfl, fun _ => rfl⟩, FZ.nil, ⟨fun _ => rfl, fun _ => rfl⟩, FZ.nil, ⟨fun _ => rfl, fun _ => rfl⟩, FZ.nil, ⟨fun _ => rfl, fun _ => rfl⟩⟩
     ·
      rw [if_neg (of_decide_eq_false hc153)] at hm
      refine c_skip ?_
      refine x_then_normal ?_
      refine c_sr ?_
      refine t_st rfl (st_loadD (vs := [_, _, _, _, _]) 1 5 rfl agg28 rfl rfl rfl) ?_
      refine t_do rfl (u_storeN (vs := [_, _, _, _, _]) 0 5 rfl rfl rfl siz28 rfl (mem_c rfl (mem_c rfl (mem_c rfl (mem_c rfl (mem_c rfl mem_n))))) rfl (by simp)) ?_
      rintro _ _ rfl
      refine t_as rfl rfl ?_
      refine t_ne ?_
      refine c_ret ?_
      obtain ⟨rfl, rfl, rfl, rfl, rfl, rfl⟩ := some6 hm
      exact retM (rs := [.cell 2 28, .tmp 3]) [.agg #[.slice none 0 0, .slice none 0 0, .slice none 0 0, .slice none 0 0, .slice none 0 0], .int .i64 (0)] (hle97.trans hle126) (by decide) rfl ⟨⟨_, rfl, fun w ho => cell_agg (vs := [_, _, _, _, _]) 0 5 agg28 rfl rfl rfl w ho⟩, ⟨rfl, trivial⟩⟩ rfl (.cons _ (.cons _ (sub_skip hs100 (.refl _)))) ⟨none, 0, none, 0, none, 0, none, 0, none, 0, rfl, rfl, FZ.nil, ⟨fun _ => rfl, fun _ => rfl⟩, FZ.nil, ⟨fun _ => rfl, fun _ => rfl⟩, FZ.nil, ⟨fun _ => rfl, fun _ => rfl⟩, FZ.nil, ⟨fun _ => rfl, fun _ => rfl⟩, FZ.nil, ⟨fun _ => rfl, fun _ => rfl⟩⟩

set_option maxRecDepth 20000 in
theorem cFishkeep1AwakeLine (b : Base) (R : Hp) (x31 : Bool) (hm : mFishkeep1AwakeLine = some x31) :
    CallsG Tryd.prog 7 [] b (R) (fun v b' hp' => .bool (x31) = v ∧ R = hp') := by
  refine fn_enterG 9 Tryd.func7 rfl Tryd.ntmps7 rfl ?_
  unfold mFishkeep1AwakeLine at hm
  refine c_sr ?_
  refine t_as rfl rfl ?_
  refine t_ne ?_
  refine c_sr ?_
  obtain ⟨⟨l32, l33, l34, l35, l36, x37⟩, hcl38, hm⟩ := bindS hm
  have hm := (unc6E hm)
  refine t_callG _ rfl call16 rfl (cLineRead _ _ (ByteArray.mk #[120]) l32 l33 l34 l35 l36 x37 hcl38) ?_
  rintro _ b39 _ hle40 ⟨A41, c42, A43, c44, A45, c46, A47, c48, A49, c50, rfl, rfl, h51, h52, h53, h54, h55, h56, h57, h58, h59, h60⟩
  refine t_mv rfl rfl ?_
  refine t_st rfl (st_extract rfl rfl) ?_
  refine t_st rfl (st_extract rfl rfl) ?_
  refine t_do rfl (u_alloc [.slice none 0 0, .slice none 0 0, .slice none 0 0, .slice none 0 0, .slice none 0 0] zero28 rfl) ?_
  rintro _ _ ⟨g61, rfl, rfl⟩
  refine t_do rfl (u_storeN (vs := [_, _, _, _, _]) 0 5 rfl rfl rfl siz28 rfl (mem_c rfl (mem_c rfl (mem_c rfl (mem_c rfl (mem_c rfl mem_n))))) rfl (by simp)) ?_
  rintro _ _ rfl
  refine t_as rfl rfl ?_
  refine t_ne ?_
  refine c_sr ?_
  refine t_mv rfl rfl ?_
  refine t_st rfl (st_neq rfl rfl) ?_
  refine t_as rfl rfl ?_
  refine t_ne ?_
  refine c_ret ?_
  obtain rfl := some1 hm
  exact retM (rs := [.tmp 0]) [.bool (decide (x37 ≠ 0))] hle40 (by decide) rfl ⟨rfl, trivial⟩ rfl (.cons _ (.refl _)) ⟨rfl, rfl⟩

set_option maxRecDepth 20000 in
theorem cBitsMul64 (b : Base) (R : Hp) (x1 : Int) (x2 : Int) (x8 : Int) (x9 : Int) (hm : mBitsMul64 x1 x2 = some (x8, x9)) :
    CallsG Tryd.prog 65 [.int .u64 (x1), .int .u64 (x2)] b (R) (fun v b' hp' => .tuple #[.int .u64 (x8), .int .u64 (x9)] = v ∧ R = hp') := by
  refine fn_enterG 51 Tryd.func65 rfl Tryd.ntmps65 rfl ?_
  unfold mBitsMul64 at hm
  refine c_sr ?_
  refine t_as rfl rfl ?_
  refine t_as rfl rfl ?_
  refine t_ne ?_
  refine c_sr ?_
  refine t_mv rfl rfl ?_
  refine t_st rfl (st_and rfl rfl) ?_
  refine t_as rfl rfl ?_
  refine t_ne ?_
  refine c_sr ?_
  refine t_mv rfl rfl ?_
  obtain ⟨_, h10, hm⟩ := bindS hm
  have h10 := shN_some h10
  refine t_st rfl (st_shr rfl rfl h10) ?_
  refine t_as rfl rfl ?_
  refine t_ne ?_
  refine c_sr ?_
  refine t_mv rfl rfl ?_
  refine t_st rfl (st_and rfl rfl) ?_
  refine t_as rfl rfl ?_
  refine t_ne ?_
  refine c_sr ?_
  refine t_mv rfl rfl ?_
  obtain ⟨_, h11, hm⟩ := bindS hm
  have h11 := shN_some h11
  refine t_st rfl (st_shr rfl rfl h11) ?_
  refine t_as rfl rfl ?_
  refine t_ne ?_
  refine c_sr ?_
  refine t_mv rfl rfl ?_
  refine t_mv rfl rfl ?_
  refine t_st rfl (st_mul_w rfl rfl) ?_
  refine t_as rfl rfl ?_
  refine t_ne ?_
  refine c_sr ?_
  refine t_mv rfl rfl ?_
  refine t_mv rfl rfl ?_
  refine t_st rfl (st_mul_w rfl rfl) ?_
  refine t_mv rfl rfl ?_
  obtain ⟨_, h12, hm⟩ := bindS hm
  have h12 := shN_some h12
  refine t_st rfl (st_shr rfl rfl h12) ?_
  refine t_st rfl (st_add_w rfl rfl) ?_
  refine t_as rfl rfl ?_
  refine t_ne ?_
  refine c_sr ?_
  refine t_mv rfl rfl ?_
  refine t_st rfl (st_and rfl rfl) ?_
  refine t_as rfl rfl ?_
  refine t_ne ?_
  refine c_sr ?_
  refine t_mv rfl rfl ?_
  obtain ⟨_, h13, hm⟩ := bindS hm
  have h13 := shN_some h13
  refine t_st rfl (st_shr rfl rfl h13) ?_
  refine t_as rfl rfl ?_
  refine t_ne ?_
  refine c_sr ?_
  refine t_mv rfl rfl ?_
  refine t_mv rfl rfl ?_
  refine t_mv rfl rfl ?_
  refine t_st rfl (st_mul_w rfl rfl) ?_
  refine t_st rfl (st_add_w rfl rfl) ?_
  refine t_as rfl rfl ?_
  refine t_ne ?_
  refine c_sr ?_
  refine t_mv rfl rfl ?_
  refine t_mv rfl rfl ?_
  refine t_st rfl (st_mul_w rfl rfl) ?_
  refine t_mv rfl rfl ?_
  refine t_st rfl (st_add_w rfl rfl) ?_
  refine t_mv rfl rfl ?_
  obtain ⟨_, h14, hm⟩ := bindS hm
  have h14 := shN_some h14
  refine t_st rfl (st_shr rfl rfl h14) ?_
  refine t_st rfl (st_add_w rfl rfl) ?_
  refine t_as rfl rfl ?_
  refine t_ne ?_
  refine c_sr ?_
  refine t_mv rfl rfl ?_
  refine t_mv rfl rfl ?_
  refine t_st rfl (st_mul_w rfl rfl) ?_
  refine t_as rfl rfl ?_
  refine t_ne ?_
  refine c_ret ?_
  obtain ⟨rfl, rfl⟩ := some2 hm
  exact retM (rs := [.tmp 4, .tmp 5]) [.int .u64 (IntKind.wrap .u64 ((IntKind.wrap .u64 ((IntKind.wrap .u64 ((shrI .u64 x1 32) * (shrI .u64 x2 32))) + (shrI .u64 (IntKind.wrap .u64 ((IntKind.wrap .u64 ((shrI .u64 x1 32) * (andI .u64 x2 4294967295))) + (shrI .u64 (IntKind.wrap .u64 ((andI .u64 x1 4294967295) * (andI .u64 x2 4294967295))) 32))) 32))) + (shrI .u64 (IntKind.wrap .u64 ((andI .u64 (IntKind.wrap .u64 ((IntKind.wrap .u64 ((shrI .u64 x1 32) * (andI .u64 x2 4294967295))) + (shrI .u64 (IntKind.wrap .u64 ((andI .u64 x1 4294967295) * (andI .u64 x2 4294967295))) 32))) 4294967295) + (IntKind.wrap .u64 ((andI .u64 x1 4294967295) * (shrI .u64 x2 32))))) 32))), .int .u64 (IntKind.wrap .u64 (x1 * x2))] (Base.Le.refl _) (by decide) rfl ⟨rfl, ⟨rfl, trivial⟩⟩ rfl (.refl _) ⟨rfl, rfl⟩

set_option maxRecDepth 20000 in
theorem cBitsMul (b : Base) (R : Hp) (x1 : Int) (x2 : Int) (x6 : Int) (x7 : Int) (hm : mBitsMul x1 x2 = some (x6, x7)) :
    CallsG Tryd.prog 50 [.int .u64 (x1), .int .u64 (x2)] b (R) (fun v b' hp' => .tuple #[.int .u64 (x6), .int .u64 (x7)] = v ∧ R = hp') := by
  refine fn_enterG 30 Tryd.func50 rfl Tryd.ntmps50 rfl ?_
  unfold mBitsMul at hm
  refine c_sr ?_
  refine t_as rfl rfl ?_
  refine t_as rfl rfl ?_
  refine t_ne ?_
  refine c_seq ?_
  refine c_cond_f rfl ?_
  refine c_skip ?_
  refine x_then_normal ?_
  refine c_sr ?_
  refine t_mv rfl rfl ?_
  refine t_mv rfl rfl ?_
  obtain ⟨⟨x8, x9⟩, hcl10, hm⟩ := bindS hm
  have hm := (unc2E hm)
  refine t_do rfl (u_callW0 _ call65 rfl (fun w ho => cBitsMul64 _ [] x1 x2 x8 x9 hcl10) (fun _ _ _ h => h.2.symm)) ?_
  rintro _ _ ⟨⟨_, rfl, _⟩, rfl⟩
  refine t_mv rfl rfl ?_
  refine t_st rfl (st_extract rfl rfl) ?_
  refine t_st rfl (st_extract rfl rfl) ?_
  refine t_as rfl rfl ?_
  refine t_as rfl rfl ?_
  refine t_ne ?_
  refine c_sr ?_
  refine t_mv rfl rfl ?_
  refine t_mv rfl rfl ?_
  refine t_as rfl rfl ?_
  refine t_as rfl rfl ?_
  refine t_ne ?_
  refine c_ret ?_
  obtain ⟨rfl, rfl⟩ := some2 hm
  exact retM (rs := [.tmp 4, .tmp 5]) [.int .u64 (x8), .int .u64 (x9)] (Base.Le.refl _) (by decide) rfl ⟨rfl, ⟨rfl, trivial⟩⟩ rfl (.refl _) ⟨rfl, rfl⟩

set_option maxRecDepth 20000 in
theorem cSlicesRepeat (b : Base) (R : Hp) (l4 : (List Int)) (x5 : Int) (A1 : Option Addr) (c2 : Nat) (h3 : FZ (RT.int .i64) b.w A1 c2 l4) (l401 : (List Int)) (hm : mSlicesRepeat l4 x5 = some l401) :
    CallsG Tryd.prog 29 [.slice A1 (l4).length c2, .int .i64 (x5)] b (R) (fun v b' hp' => ∃ (A398 : Option Addr), ∃ (c399 : Nat), ∃ (hs397 : Hp), .slice A398 (l401).length c399 = v ∧ (hs397 ++ R) = hp' ∧ OS 3 (OT.fr (RT.int .i64)) b'.w (.slice A398 l401.length c399) l401 hs397) := by
  refine fn_enterG 48 Tryd.func29 rfl Tryd.ntmps29 rfl ?_
  unfold mSlicesRepeat at hm
  refine c_sr ?_
  refine t_as rfl rfl ?_
  refine t_ne ?_
  refine c_seq ?_
  refine c_sr ?_
  refine t_mv rfl rfl ?_
  refine t_st rfl (st_lss rfl rfl) ?_
  refine t_ne ?_
  refine c_cond _ rfl (fun hc402 => ?_) (fun hc402 => ?_)
  ·
   rw [if_pos (of_decide_eq_true hc402)] at hm
   cases hm
  ·
   rw [if_neg (of_decide_eq_false hc402)] at hm
   refine c_skip ?_
   refine x_then_normal ?_
   refine c_sr ?_
   refine t_mv rfl rfl ?_
   refine t_st rfl (st_len rfl sl48) ?_
   refine t_st rfl (st_conv rfl int3_i64 int115_u64) ?_
   refine t_mv rfl rfl ?_
   refine t_st rfl (st_conv rfl int3_i64 int115_u64) ?_
   obtain ⟨⟨x403, x404⟩, hcl405, hm⟩ := bindS hm
   have hm := (unc2E hm)
   refine t_do rfl (u_callW0 _ call50 rfl (fun w ho => cBitsMul _ [] (IntKind.wrap .u64 (l4.length : Int)) (IntKind.wrap .u64 x5) x403 x404 hcl405) (fun _ _ _ h => h.2.symm)) ?_
   rintro _ _ ⟨⟨_, rfl, _⟩, rfl⟩
   refine t_mv rfl rfl ?_
   refine t_st rfl (st_extract rfl rfl) ?_
   refine t_st rfl (st_extract rfl rfl) ?_
   refine t_as rfl rfl ?_
   refine t_as rfl rfl ?_
   refine t_ne ?_
   refine c_seq ?_
   obtain ⟨x409, hj410, hk410⟩ := bindS hm
   refine c_join (fun b407 e' hp' => [(0, .slice A1 (l4).length c2), (6, .int .u64 (x404)), (26, .bool (x409))] = e' ∧ R = hp' ∧ b.Le b407) ?_ ?_
   ·
    have hm := hj410
    refine c_region ?_
    refine t_mv rfl rfl ?_
    refine t_bool rfl (st_gtr rfl rfl) (fun hc411 => ?_) (fun hc411 => ?_)
    ·
     rw [if_pos hc411] at hm
     refine t_mv rfl rfl ?_
     refine t_no 23 rfl rfl rfl rfl rfl ?_
     refine t_no 23 rfl rfl rfl rfl rfl ?_
     refine t_st rfl (st_pick_t rfl rfl) ?_
     refine t_nil ?_
     obtain rfl := some1 hm
     exact x_join (e' := [(0, .slice A1 (l4).length c2), (6, .int .u64 (x404)), (26, .bool (true))]) ⟨rfl, rfl, rfl, trivial⟩ (.refl _) ⟨rfl, rfl, (Base.Le.refl _)⟩
    ·
     rw [if_neg hc411] at hm
     refine t_mv rfl rfl ?_
     refine t_yes 23 rfl rfl rfl ?_
     refine t_mv rfl rfl ?_
     refine t_yes 23 rfl rfl rfl ?_
     refine t_st rfl (st_gtr rfl rfl) ?_
     refine t_st rfl (st_pick_f rfl rfl) ?_
     refine t_nil ?_
     obtain rfl := some1 hm
     exact x_join (e' := [(0, .slice A1 (l4).length c2), (6, .int .u64 (x404)), (26, .bool (decide (9223372036854775807 < x404)))]) ⟨rfl, rfl, rfl, trivial⟩ (.refl _) ⟨rfl, rfl, (Base.Le.refl _)⟩
   ·
    rintro b407 _ _ ⟨rfl, rfl, hle408⟩
    have hm := hk410
    refine c_cond _ rfl (fun hc412 => ?_) (fun hc412 => ?_)
    ·
     rw [if_pos hc412] at hm
     cases hm
    ·
     rw [if_neg (fun hh => Bool.noConfusion (hh.symm.trans hc412))] at hm
     refine c_skip ?_
     refine x_then_normal ?_
     refine c_sr ?_
     refine t_mv rfl rfl ?_
     refine t_st rfl (st_conv rfl int115_u64 int3_i64) ?_
     obtain ⟨m413, h414, hm⟩ := bindS hm
     have h414 := mkLen_some h414
     refine t_do rfl (u_mkOS (r := (RT.int .i64)) [] R [.int .i64 (0)] 0 m413 rfl h414.1 rfl rfl sl48 inf3 rfl rfl rfl (by decide) rfl h414.2.1 h414.2.2) ?_
     rintro _ _ ⟨hs415, rfl, h416⟩
     obtain ⟨A417, c418, rfl, _⟩ := h416.form
     refine t_as rfl rfl ?_
     refine t_ne ?_
     refine c_sr ?_
     refine t_mv rfl rfl ?_
     refine t_mv rfl rfl ?_
     obtain ⟨css419, h420, h421⟩ := rd_src (h3.le hle408)
     refine t_do rfl (u_copyI (r := (RT.int .i64)) (m := l4) (show (0 : Int) = ((0 : Nat) : Int) from rfl) rfl [] R css419 rfl sl48 rfl rfl (subA_zero _ _ _).symm (Nat.sub_zero _).symm rfl (Nat.zero_le _) (Nat.le_refl _) h416 rfl (fun w ho => h420.old ho) h421) ?_
     rintro _ _ ⟨rfl, hs422, rfl, h423⟩
     refine t_resp 7 rfl (v' := .slice A417 (cpyI (List.replicate m413 (0 : Int)) 0 ((List.replicate m413 (0 : Int)).length : Int) l4).length c418) (by rw [(cpyI_length (show (0 : Int) = ((0 : Nat) : Int) from rfl) rfl (Nat.zero_le _) (Nat.le_refl _))]) ?_
     refine t_as rfl rfl ?_
     refine t_ne ?_
     obtain ⟨l609, hj611, hk611⟩ := bindS hm
     refine c_join (fun b604 e' hp' => ∃ (hs607 : Hp), [(7, .slice A417 (l609).length c418)] = e' ∧ (hs607 ++ R) = hp' ∧ b407.Le b604 ∧ OS 3 (OT.fr (RT.int .i64)) b604.w (.slice A417 l609.length c418) l609 hs607 ∧ l609.length = m413) ?_ ?_
     ·
      have hm := hj611
      refine c_block ?_
      refine c_loopM (unc2 fun x734 l735 => fun b729 e' hp' => ∃ (hs732 : Hp), [(7, .slice A417 (l735).length c418), (8, .int .i64 (x734))] = e' ∧ (hs732 ++ R) = hp' ∧ b407.Le b729 ∧ OS 3 (OT.fr (RT.int .i64)) b729.w (.slice A417 l735.length c418) l735 hs732 ∧ l735.length = m413) hm (e' := [(7, .slice A417 (cpyI (List.replicate m413 (0 : Int)) 0 ((List.replicate m413 (0 : Int)).length : Int) l4).length c418), (8, .int .i64 (cpyN 0 ((List.replicate m413 (0 : Int)).length : Int) l4))]) ⟨rfl, rfl, trivial⟩ (.refl _) ⟨hs422, rfl, rfl, (Base.Le.refl _), h423, ((cpyI_length (show (0 : Int) = ((0 : Nat) : Int) from rfl) rfl (Nat.zero_le _) (Nat.le_refl _)).trans List.length_replicate)⟩ ?_
      rintro ⟨x734, l735⟩ b729 _ _ oL612 ⟨hs732, rfl, rfl, hle730, h733, hln736⟩ hstepL612 houtL612
      unfold mSlicesRepeat_L612 at hstepL612
      have hm := (unc2E hstepL612)
      refine c_seq ?_
      refine c_sr ?_
      refine t_mv rfl rfl ?_
      refine t_mv rfl rfl ?_
      refine t_st rfl (st_len rfl sl48) ?_
      refine t_st rfl (st_lss rfl rfl) ?_
      refine t_ne ?_
      refine c_cond _ rfl (fun hc737 => ?_) (fun hc737 => ?_)
      ·
       rw [if_pos (of_decide_eq_true hc737)] at hm
       refine c_skip ?_
       refine x_then_normal ?_
       refine c_block ?_
       obtain ⟨l765, h766, hm⟩ := bindS hm
       obtain ⟨l775, h776, hm⟩ := bindS hm
       obtain ⟨_, h791, hm⟩ := bindS hm
       refine D_drawI mixed (sub_skip hs732 (.refl _)) ?_
       refine E_st 0 rfl (st_move rfl) ?_
       refine E_st 1 rfl (st_move rfl) ?_
       refine E_st 2 rfl (st_move rfl) ?_
       obtain ⟨j767, j768, hj769, hj770, hj771, hj772, hx773⟩ := cutS_some h766
       have h774 := OS.lc h733
       refine E_st 3 rfl (hx773 ▸ st_part (l := l735) j767 j768 rfl (.inr ⟨_, _, _, rfl, rfl, hj769⟩) (.inl ⟨rfl, by omega⟩) hj771 hj772 h774 sl48) ?_
       refine E_st 4 rfl (st_move rfl) ?_
       refine E_st 5 rfl (st_move rfl) ?_
       obtain ⟨j777, j778, hj779, hj780, hj781, hj782, hx783⟩ := cutS_some h776
       have h784 := OS.lc h733
       refine E_st 6 rfl (hx783 ▸ st_part (l := l735) j777 j778 rfl (.inl ⟨rfl, by omega⟩) (.inr ⟨_, _, _, rfl, rfl, hj780⟩) hj781 hj782 h784 sl48) ?_
       refine E_out ?_
       obtain ⟨css785, h786, h787⟩ := rd_own h733 (List.sublist_append_left _ _)
       have h788 := OS.lc h733
       refine D_all [7] (by kernel_rfl) rfl ?_
       refine R_do (Base.Le.refl _) rfl rfl (u_copyI (r := (RT.int .i64)) (m := l775) hj769 hj770 [] R ((css785.take j778).drop j777) rfl sl48 rfl rfl rfl (cut_len hx773 hj771 hj772) rfl hj771 hj772 h733 rfl (fun w ho => rd_part rfl hj781 hj782 h788 (h786 w ho) ⟨_, h787⟩) (cut_all hx783 h787)) ?_ ?_
       ·
        rintro _ _ ⟨rfl, hs789, rfl, h790⟩
        refine ⟨.inr (sub_skip hs789 (.refl _)), ?_⟩
        refine d_resp 7 rfl (v' := .slice A417 (cpyI l735 x734 (l735.length : Int) l775).length c418) (by rw [(cpyI_length hj769 hj770 hj771 hj772)]) ?_
        have h791 := (chk_some h791).2
        refine E_in (sub_skip hs789 (.refl _)) ?_
        refine E_st 8 rfl (st_add rfl rfl h791) ?_
        refine E_st 9 rfl (st_assign rfl) ?_
        refine E_out ?_
        refine D_done (by kernel_rfl) ?_
        refine x_block_normal ?_
        exact x_againM (x734 + (cpyN x734 (l735.length : Int) l775), cpyI l735 x734 (l735.length : Int) l775) (Option.some.inj hm).symm (e' := [(7, .slice A417 (cpyI l735 x734 (l735.length : Int) l775).length c418), (8, .int .i64 (x734 + (cpyN x734 (l735.length : Int) l775)))]) ⟨rfl, rfl, trivial⟩ (.refl _) ⟨hs789, rfl, rfl, (hle730), h790, ((cpyI_length hj769 hj770 hj771 hj772).trans hln736)⟩
       exact R_nil
      ·
       rw [if_neg (of_decide_eq_false hc737)] at hm
       refine c_exit ?_
       refine x_then_exit ?_
       refine x_then_exit ?_
       refine x_block_out ?_
       have hm := congrArg some (houtL612 _ (Option.some.inj hm).symm)
       obtain rfl := some1 hm
       exact x_join (e' := [(7, .slice A417 (l735).length c418)]) ⟨rfl, trivial⟩ (.refl _) ⟨hs732, rfl, rfl, hle730, h733, hln736⟩
     ·
      rintro b604 _ _ ⟨hs607, rfl, rfl, hle605, h608, hln610⟩
      have hm := hk611
      refine c_sr ?_
      refine t_mv rfl rfl ?_
      refine t_as rfl rfl ?_
      refine t_ne ?_
      refine c_ret ?_
      obtain rfl := some1 hm
      exact retM (rs := [.tmp 4]) [.slice A417 (l609).length c418] (hle408.trans hle605) (by decide) rfl ⟨rfl, trivial⟩ rfl (.refl _) ⟨A417, c418, hs607, rfl, rfl, h608⟩

set_option maxRecDepth 20000 in
theorem cLinePlatforms (b : Base) (R : Hp) (s1 : ApiNet) (x17 : Int) (A2 : Option Addr) (c3 : Nat) (A5 : Option Addr) (c6 : Nat) (A8 : Option Addr) (c9 : Nat) (A11 : Option Addr) (c12 : Nat) (A14 : Option Addr) (c15 : Nat) (h4 : FZ RT.str b.w A2 c3 s1.Stations) (h7 : FZ rApiSection b.w A5 c6 s1.Sections) (h10 : FZ rApiLink b.w A8 c9 s1.Links) (h13 : FZ rApiSignal b.w A11 c12 s1.Signals) (h16 : FZ rApiGate b.w A14 c15 s1.Gates) (l101 : (List Int)) (hm : mLinePlatforms s1 x17 = some l101) :
    CallsG Tryd.prog 31 [.agg #[.slice A2 (s1.Stations).length c3, .slice A5 (s1.Sections).length c6, .slice A8 (s1.Links).length c9, .slice A11 (s1.Signals).length c12, .slice A14 (s1.Gates).length c15], .int .i64 (x17)] b (R) (fun v b' hp' => ∃ (A98 : Option Addr), ∃ (c99 : Nat), ∃ (hs97 : Hp), .slice A98 (l101).length c99 = v ∧ (hs97 ++ R) = hp' ∧ OS 3 (OT.fr (RT.int .i64)) b'.w (.slice A98 l101.length c99) l101 hs97) := by
  refine fn_enterG 27 Tryd.func31 rfl Tryd.ntmps31 rfl ?_
  unfold mLinePlatforms at hm
  refine c_sr ?_
  refine t_do rfl (u_box _ rfl rfl) ?_
  rintro _ _ ⟨g102, rfl, rfl⟩
  refine t_as rfl rfl ?_
  refine t_ne ?_
  refine c_sr ?_
  refine t_as rfl rfl ?_
  refine t_ne ?_
  refine c_seq ?_
  refine c_sr ?_
  refine t_st rfl (st_field rfl fld28_1) ?_
  refine t_st rfl (st_load 0 rfl one23 rfl rfl) ?_
  refine t_st rfl (st_len rfl sl23) ?_
  refine t_mv rfl rfl ?_
  refine t_ne ?_
  refine c_block ?_
  have hb104 : s1.Sections.length ≤ 9223372036854775807 := (FZ.bd h7)
  obtain ⟨l157, hl159, hk160⟩ := bindS hm
  refine c_forS (fun k158 => fun l157 => fun b150 e' hp' => ∃ (A154 : Option Addr), ∃ (c155 : Nat), ∃ (hs153 : Hp), [(1, .int .i64 (x17)), (5, .slice A154 (l157).length c155), (9, .slice A5 (s1.Sections).length c6), (10, .int .i64 ((s1.Sections.length : Int))), (11, .int .i64 ((k158 : Int)))] = e' ∧ (hs153 ++ R) = hp' ∧ b.Le b150 ∧ OS 3 (OT.fr (RT.int .i64)) b150.w (.slice A154 l157.length c155) l157 hs153) hl159 (e' := [(1, .int .i64 (x17)), (5, .slice none 0 0), (9, .slice A5 (s1.Sections).length c6), (10, .int .i64 ((s1.Sections.length : Int))), (11, .int .i64 0)]) ⟨rfl, rfl, rfl, rfl, rfl, trivial⟩ (.cons _ (.refl _)) ⟨none, 0, [], rfl, rfl, (Base.Le.refl _), OS.nil⟩ ?_ ?_
  ·
   rintro k158 l157 b150 _ _ oL103 hknL103 ⟨A154, c155, hs153, rfl, rfl, hle151, h156⟩ hstepL103
   unfold mLinePlatforms_L103 at hstepL103
   have hm := hstepL103
   refine c_sr ?_
   refine t_st rfl (st_lss_t rfl rfl (by omega)) ?_
   refine t_ne ?_
   refine c_seq ?_
   refine c_cond_t rfl ?_
   refine c_skip ?_
   refine x_then_normal ?_
   refine c_seq ?_
   refine c_block ?_
   refine c_sr ?_
   refine t_mv rfl rfl ?_
   obtain ⟨x161, h162, hm⟩ := bindS hm
   obtain ⟨j163, hj164, hx165⟩ := idx_some h162
   obtain ⟨cs166, hr167, hcs168, hA169, hlt170⟩ := FZ.get (sz := 7) rfl (by decide) (h7.le hle151) hx165
   obtain ⟨_, _, rfl, rfl, ⟨_, _, rfl, rfl, ⟨_, _, rfl, rfl, ⟨_, _, rfl, rfl, ⟨_, _, rfl, rfl, ⟨_, _, rfl, rfl, rfl⟩⟩⟩⟩⟩⟩ := hr167
   refine t_st rfl (st_index_old j163 rfl rfl hj164 hlt170 hA169 sl23) ?_
   refine t_st rfl (st_loadN_old (vs := [.int .i64 (x161.Kind), .int .i64 (x161.Length), .int .i64 (x161.Grade), .int .i64 (x161.Speed), .int .i64 (x161.Slow), .int .i64 (x161.Station), .bool (x161.Axles)]) 7 rfl agg58 hA169 rfl (fun j u hu => hcs168 j u hu)) ?_
   refine t_do rfl (u_alloc [.int .i64 0, .int .i64 0, .int .i64 0, .int .i64 0, .int .i64 0, .int .i64 0, .bool false] zero58 rfl) ?_
   rintro _ _ ⟨g171, rfl, rfl⟩
   refine t_as rfl rfl ?_
   refine t_do rfl (u_storeN (vs := [_, _, _, _, _, _, _]) 0 7 rfl rfl rfl siz58 rfl (mem_c rfl (mem_c rfl (mem_c rfl (mem_c rfl (mem_c rfl (mem_c rfl (mem_c rfl mem_n))))))) rfl (by simp)) ?_
   rintro _ _ rfl
   refine t_ne ?_
   refine c_sr ?_
   refine t_st rfl (st_field rfl fld58_5) ?_
   refine t_st rfl (st_load 0 rfl one3 rfl rfl) ?_
   refine t_mv rfl rfl ?_
   obtain ⟨_, h172, hm⟩ := bindS hm
   have h172 := (chk_some h172).2
   refine t_st rfl (st_add rfl rfl h172) ?_
   refine t_st rfl (st_eql rfl rfl) ?_
   refine t_ne ?_
   refine c_cond _ rfl (fun hc173 => ?_) (fun hc173 => ?_)
   ·
    rw [if_pos (of_decide_eq_true hc173)] at hm
    refine c_region ?_
    refine t_mv rfl rfl ?_
    refine t_mv rfl rfl ?_
    refine t_do rfl (u_bslice (el := 3) [(0, .int .i64 ((k158 : Int)))] [.int .i64 ((k158 : Int))] rfl (fun _ => by kernel_rfl)) ?_
    rintro _ _ ⟨g174, rfl, rfl⟩
    obtain ⟨_, h175, hm⟩ := bindS hm
    have h175 := room_some h175
    refine t_do rfl (u_appOS (r := (RT.int .i64)) (l := l157) [_, _] R [[.int .i64 ((k158 : Int))]] [(k158 : Int)] rfl (by decide) sl48 inf3 rfl rfl rfl rfl h156 rfl (fun w ho => Rd.own (i := 0) ho rfl) ⟨rfl, trivial⟩ h175) ?_
    rintro _ _ ⟨hs176, rfl, h177⟩
    obtain ⟨A178, c179, rfl, _⟩ := h177.form
    refine t_as rfl rfl ?_
    refine t_nil ?_
    refine x_block_normal ?_
    refine x_then_normal ?_
    refine c_region ?_
    refine t_st rfl (st_add rfl rfl (by omega)) ?_
    refine t_mv rfl rfl ?_
    refine t_nil ?_
    obtain rfl := some1 hm
    exact x_againS (e' := [(1, .int .i64 (x17)), (5, .slice A178 (l157 ++ [(k158 : Int)]).length c179), (9, .slice A5 (s1.Sections).length c6), (10, .int .i64 ((s1.Sections.length : Int))), (11, .int .i64 ((k158 : Int) + 1))]) ⟨rfl, rfl, rfl, rfl, rfl, trivial⟩ (.cons _ (.cons _ (.refl _))) ⟨A178, c179, hs176, rfl, rfl, (hle151), h177⟩
   ·
    rw [if_neg (of_decide_eq_false hc173)] at hm
    refine c_skip ?_
    refine x_block_normal ?_
    refine x_then_normal ?_
    refine c_region ?_
    refine t_st rfl (st_add rfl rfl (by omega)) ?_
    refine t_mv rfl rfl ?_
    refine t_nil ?_
    obtain rfl := some1 hm
    exact x_againS (e' := [(1, .int .i64 (x17)), (5, .slice A154 (l157).length c155), (9, .slice A5 (s1.Sections).length c6), (10, .int .i64 ((s1.Sections.length : Int))), (11, .int .i64 ((k158 : Int) + 1))]) ⟨rfl, rfl, rfl, rfl, rfl, trivial⟩ (.cons _ (.refl _)) ⟨A154, c155, hs153, rfl, rfl, (hle151), h156⟩
  ·
   rintro b150 _ _ ⟨A154, c155, hs153, rfl, rfl, hle151, h156⟩
   have hm := hk160
   refine c_sr ?_
   refine t_st rfl (st_lss_f rfl rfl (by omega)) ?_
   refine t_ne ?_
   refine c_seq ?_
   refine c_cond_f rfl ?_
   refine c_exit ?_
   refine x_then_exit ?_
   refine x_then_exit ?_
   refine x_block_out ?_
   refine x_then_normal ?_
   refine c_sr ?_
   refine t_mv rfl rfl ?_
   refine t_as rfl rfl ?_
   refine t_ne ?_
   refine c_ret ?_
   obtain rfl := some1 hm
   exact retM (rs := [.tmp 4]) [.slice A154 (l157).length c155] hle151 (by decide) rfl ⟨rfl, trivial⟩ rfl (.refl _) ⟨A154, c155, hs153, rfl, rfl, h156⟩

set_option maxRecDepth 20000 in
theorem cLineDistances_1 (b : Base) (R : Hp) (s13 : LineEnd) (x14 : Int) (l18 : (List ByteArray)) (l22 : (List ApiSection)) (l26 : (List ApiLink)) (l30 : (List ApiSignal)) (l34 : (List ApiGate)) (l35 : (List (LineEnd × Int))) (l36 : (List LineEnd)) (g10 : Nat) (g11 : Nat) (g12 : Nat) (A15 : Option Addr) (c16 : Nat) (A19 : Option Addr) (c20 : Nat) (A23 : Option Addr) (c24 : Nat) (A27 : Option Addr) (c28 : Nat) (A31 : Option Addr) (c32 : Nat) (g3 : Nat) (hs2 : Hp) (A7 : Option Addr) (c8 : Nat) (hs6 : Hp) (h17 : FZ RT.str b.w A15 c16 l18) (h21 : FZ rApiSection b.w A19 c20 l22) (h25 : FZ rApiLink b.w A23 c24 l26) (h29 : FZ rApiSignal b.w A27 c28 l30) (h33 : FZ rApiGate b.w A31 c32 l34) (h4 : OM rLineEnd (OT.fr (RT.int .i64)) true false b.w g3 l35 hs2) (h9 : OS 77 (OT.fr rLineEnd) b.w (.slice A7 l36.length c8) l36 hs6) (hnz37 : (A7 = none ↔ l36 = [])) (l78 : (List (LineEnd × Int))) (l79 : (List LineEnd)) (hm : mLineDistances_1 s13 x14 l18 l22 l26 l30 l34 l35 l36 = some (l78, l79)) :
    CallsG Tryd.prog 51 [.agg #[.int .i64 (s13.section_), .int .i64 (s13.end_)], .int .i64 (x14), .pointer (some ⟨g10, 0, none⟩), .pointer (some ⟨g11, 0, none⟩), .pointer (some ⟨g12, 0, none⟩)] b ((g10, Cl 28 [.slice A15 (l18).length c16, .slice A19 (l22).length c20, .slice A23 (l26).length c24, .slice A27 (l30).length c28, .slice A31 (l34).length c32]) :: (g11, Cl 86 [.map (some g3)]) :: (g12, Cl 118 [.slice A7 (l36).length c8]) :: (hs2 ++ (hs6 ++ R))) (fun v b' hp' => ∃ (hs71 : Hp), ∃ (A75 : Option Addr), ∃ (c76 : Nat), ∃ (hs74 : Hp), .tuple #[] = v ∧ (g10, Cl 28 [.slice A15 (l18).length c16, .slice A19 (l22).length c20, .slice A23 (l26).length c24, .slice A27 (l30).length c28, .slice A31 (l34).length c32]) :: (g11, Cl 86 [.map (some g3)]) :: (g12, Cl 118 [.slice A75 (l79).length c76]) :: (hs71 ++ (hs74 ++ R)) = hp' ∧ OM rLineEnd (OT.fr (RT.int .i64)) true false b'.w g3 l78 hs71 ∧ OS 77 (OT.fr rLineEnd) b'.w (.slice A75 l79.length c76) l79 hs74 ∧ (A75 = none ↔ l79 = [])) := by
  refine fn_enterG 40 Tryd.func51 rfl Tryd.ntmps51 rfl ?_
  unfold mLineDistances_1 at hm
  refine c_sr ?_
  refine t_do rfl (u_box _ rfl rfl) ?_
  rintro _ _ ⟨g81, rfl, rfl⟩
  refine t_ne ?_
  refine c_sr ?_
  refine t_st rfl (st_loadD (vs := [_, _, _, _, _]) 1 5 rfl agg28 rfl rfl rfl) ?_
  refine t_st rfl (st_loadD (vs := [_, _]) 0 2 rfl agg77 rfl rfl rfl) ?_
  obtain ⟨⟨x82, x83, x84⟩, hcl85, hm⟩ := bindS hm
  have hm := (unc3E hm)
  refine t_callG _ rfl call27 rfl (cLineJoined _ _ (⟨l18, l22, l26, l30, l34⟩ : ApiNet) s13 A15 c16 A19 c20 A23 c24 A27 c28 A31 c32 h17 h21 h25 h29 h33 x82 x83 x84 hcl85) ?_
  rintro _ b86 _ hle87 ⟨rfl, rfl⟩
  refine t_mv rfl rfl ?_
  refine t_st rfl (st_extract rfl rfl) ?_
  refine t_st rfl (st_extract rfl rfl) ?_
  refine t_do rfl (u_alloc [.int .i64 0, .int .i64 0] zero77 rfl) ?_
  rintro _ _ ⟨g88, rfl, rfl⟩
  refine t_do rfl (u_storeN (vs := [_, _]) 0 2 rfl rfl rfl siz77 rfl (mem_c rfl (mem_c rfl mem_n)) rfl (by simp)) ?_
  rintro _ _ rfl
  refine t_as rfl rfl ?_
  refine t_ne ?_
  refine c_sr ?_
  refine t_st rfl (st_load 3 rfl one86 rfl rfl) ?_
  refine t_st rfl (st_loadD (vs := [_, _]) 0 2 rfl agg77 rfl rfl rfl) ?_
  obtain ⟨x92, h94, hm⟩ := bindS hm
  have hx93 := Option.some.inj h94
  obtain ⟨v89, hv90, hr91⟩ := OM.lookF kok77 (z0 := 0) (h4.le hle87) (key := .agg #[.int .i64 (x82), .int .i64 (x83)]) (k := (⟨x82, x83⟩ : LineEnd)) ⟨[.int .i64 (x82), .int .i64 (x83)], rfl, ⟨[.int .i64 (x82)], _, rfl, rfl, rfl⟩⟩ mapt86 zero3 rfl
  rw [hx93] at hv90
  obtain rfl : v89 = .int .i64 (x92) := by have hv90 : [v89] = [.int .i64 (x92)] := hv90; injection hv90
  refine t_st rfl (st_mlook (ok := true) rfl rfl (fun w ho => hr91 _ w ho (.cons _ (.cons _ (.cons _ (.cons _ (.cons _ (List.sublist_append_left _ _)))))) true)) ?_
  refine t_mv rfl rfl ?_
  refine t_st rfl (st_extract rfl rfl) ?_
  refine t_st rfl (st_extract rfl rfl) ?_
  refine t_as rfl rfl ?_
  refine t_as rfl rfl ?_
  refine t_ne ?_
  obtain ⟨x99, hj100, hk100⟩ := bindS hm
  refine c_join (fun b97 e' hp' => [(1, .int .i64 (x14)), (3, .pointer (some ⟨g11, 0, none⟩)), (4, .pointer (some ⟨g12, 0, none⟩)), (7, .pointer (some ⟨g88, 0, none⟩)), (32, .bool (x99))] = e' ∧ (g11, Cl 86 [.map (some g3)]) :: (g12, Cl 118 [.slice A7 (l36).length c8]) :: (g88, Cl 77 [.int .i64 (x82), .int .i64 (x83)]) :: (g10, Cl 28 [.slice A15 (l18).length c16, .slice A19 (l22).length c20, .slice A23 (l26).length c24, .slice A27 (l30).length c28, .slice A31 (l34).length c32]) :: (hs2 ++ (hs6 ++ R)) = hp' ∧ b86.Le b97) ?_ ?_
  ·
   have hm := hj100
   refine c_region ?_
   refine t_mv rfl rfl ?_
   rcases Bool.eq_false_or_eq_true x84 with hc101 | hc101
   ·
    rw [if_pos hc101] at hm
    refine t_resp 23 rfl (v' := .bool true) (by rw [hc101] <;> rfl) ?_
    refine t_mv rfl rfl ?_
    refine t_yes 24 rfl rfl rfl ?_
    refine t_mv rfl rfl ?_
    rcases Bool.eq_false_or_eq_true (mhas l35 (⟨x82, x83⟩ : LineEnd)) with hc102 | hc102
    ·
     rw [if_pos hc102] at hm
     refine t_resp 25 rfl (v' := .bool true) (by rw [hc102] <;> rfl) ?_
     refine t_yes 24 rfl rfl rfl ?_
     refine t_st rfl (st_not_t rfl) ?_
     refine t_yes 24 rfl rfl rfl ?_
     refine t_mv rfl rfl ?_
     refine t_yes 27 rfl rfl rfl ?_
     refine t_mv rfl rfl ?_
     refine t_yes 27 rfl rfl rfl ?_
     refine t_mv rfl rfl ?_
     refine t_yes 27 rfl rfl rfl ?_
     refine t_st rfl (st_lss rfl rfl) ?_
     refine t_yes 24 rfl rfl rfl ?_
     refine t_st rfl (st_pick_f rfl rfl) ?_
     refine t_st rfl (st_pick_t rfl rfl) ?_
     refine t_nil ?_
     obtain rfl := some1 hm
     refine x_pullb 2 rfl ?_
     refine x_pullb 1 rfl ?_
     refine x_pullb 4 rfl ?_
     refine x_pullb 4 rfl ?_
     refine x_front2 [_, _, _, _, _] hs2 hs6 R rfl ?_
     refine x_front2 [_, _, _, _, _] hs6 hs2 R rfl ?_
     exact x_join (e' := [(1, .int .i64 (x14)), (3, .pointer (some ⟨g11, 0, none⟩)), (4, .pointer (some ⟨g12, 0, none⟩)), (7, .pointer (some ⟨g88, 0, none⟩)), (32, .bool (decide (x14 < x92)))]) ⟨rfl, rfl, rfl, rfl, rfl, trivial⟩ (.cons_cons _ (.cons_cons _ (.cons_cons _ (.cons_cons _ (.cons _ (.refl _)))))) ⟨rfl, rfl, (Base.Le.refl _)⟩
    ·
     rw [if_neg (fun hh => Bool.noConfusion (hh.symm.trans hc102))] at hm
     refine t_resp 25 rfl (v' := .bool false) (by rw [hc102] <;> rfl) ?_
     refine t_yes 24 rfl rfl rfl ?_
     refine t_st rfl (st_not_f rfl) ?_
     refine t_yes 24 rfl rfl rfl ?_
     refine t_mv rfl rfl ?_
     refine t_no 27 rfl rfl rfl rfl rfl ?_
     refine t_no 27 rfl rfl rfl rfl rfl ?_
     refine t_no 27 rfl rfl rfl rfl rfl ?_
     refine t_yes 24 rfl rfl rfl ?_
     refine t_st rfl (st_pick_t rfl rfl) ?_
     refine t_st rfl (st_pick_t rfl rfl) ?_
     refine t_nil ?_
     obtain rfl := some1 hm
     refine x_pullb 2 rfl ?_
     refine x_pullb 1 rfl ?_
     refine x_pullb 4 rfl ?_
     refine x_pullb 4 rfl ?_
     refine x_front2 [_, _, _, _, _] hs2 hs6 R rfl ?_
     refine x_front2 [_, _, _, _, _] hs6 hs2 R rfl ?_
     exact x_join (e' := [(1, .int .i64 (x14)), (3, .pointer (some ⟨g11, 0, none⟩)), (4, .pointer (some ⟨g12, 0, none⟩)), (7, .pointer (some ⟨g88, 0, none⟩)), (32, .bool (true))]) ⟨rfl, rfl, rfl, rfl, rfl, trivial⟩ (.cons_cons _ (.cons_cons _ (.cons_cons _ (.cons_cons _ (.cons _ (.refl _)))))) ⟨rfl, rfl, (Base.Le.refl _)⟩
   ·
    rw [if_neg (fun hh => Bool.noConfusion (hh.symm.trans hc101))] at hm
    refine t_resp 23 rfl (v' := .bool false) (by rw [hc101] <;> rfl) ?_
    refine t_mv rfl rfl ?_
    refine t_no 24 rfl rfl rfl rfl rfl ?_
    refine t_no 24 rfl rfl rfl rfl rfl ?_
    refine t_no 24 rfl rfl rfl rfl rfl ?_
    refine t_no 27 rfl rfl rfl rfl rfl ?_
    refine t_no 27 rfl rfl rfl rfl rfl ?_
    refine t_no 27 rfl rfl rfl rfl rfl ?_
    refine t_no 24 rfl rfl rfl rfl rfl ?_
    refine t_st rfl (st_pick_f rfl rfl) ?_
    refine t_nil ?_
    obtain rfl := some1 hm
    refine x_pullb 2 rfl ?_
    refine x_pullb 1 rfl ?_
    refine x_pullb 4 rfl ?_
    refine x_pullb 4 rfl ?_
    refine x_front2 [_, _, _, _, _] hs2 hs6 R rfl ?_
    refine x_front2 [_, _, _, _, _] hs6 hs2 R rfl ?_
    exact x_join (e' := [(1, .int .i64 (x14)), (3, .pointer (some ⟨g11, 0, none⟩)), (4, .pointer (some ⟨g12, 0, none⟩)), (7, .pointer (some ⟨g88, 0, none⟩)), (32, .bool (false))]) ⟨rfl, rfl, rfl, rfl, rfl, trivial⟩ (.cons_cons _ (.cons_cons _ (.cons_cons _ (.cons_cons _ (.cons _ (.refl _)))))) ⟨rfl, rfl, (Base.Le.refl _)⟩
  ·
   rintro b97 _ _ ⟨rfl, rfl, hle98⟩
   have hm := hk100
   refine c_cond _ rfl (fun hc103 => ?_) (fun hc103 => ?_)
   ·
    rw [if_pos hc103] at hm
    refine c_sr ?_
    refine t_st rfl (st_load 0 rfl one86 rfl rfl) ?_
    refine t_st rfl (st_loadD (vs := [_, _]) 2 2 rfl agg77 rfl rfl rfl) ?_
    refine t_mv rfl rfl ?_
    refine t_do rfl (u_mputF (k := (⟨x82, x83⟩ : LineEnd)) kok77 [_, _, _, _] [] (hs6 ++ R) rfl (h4.le (hle87.trans hle98)) mapt86 rfl rfl rfl (⟨[.int .i64 (x82), .int .i64 (x83)], rfl, ⟨[.int .i64 (x82)], _, rfl, rfl, rfl⟩⟩) ⟨rfl, rfl⟩ _ (.inl rfl)) ?_
    rintro _ _ ⟨hs104, rfl, hsub105, h106⟩
    refine t_ne ?_
    refine c_region ?_
    refine t_st rfl (st_load 1 rfl one118 rfl rfl) ?_
    refine t_st rfl (st_loadD (vs := [_, _]) 2 2 rfl agg77 rfl rfl rfl) ?_
    refine t_do rfl (u_bslice (el := 77) [(0, .agg #[.int .i64 (x82), .int .i64 (x83)])] [.int .i64 (x82), .int .i64 (x83)] rfl (fun _ => by kernel_rfl)) ?_
    rintro _ _ ⟨g107, rfl, rfl⟩
    obtain ⟨_, h108, hm⟩ := bindS hm
    have h108 := room_some h108
    refine t_front2 [_, _, _, _, _] hs104 hs6 R rfl ?_
    refine t_do rfl (u_appOS (r := rLineEnd) (l := l36) [_, _, _, _, _] (hs104 ++ R) [[.int .i64 (x82), .int .i64 (x83)]] [(⟨x82, x83⟩ : LineEnd)] rfl (by decide) sl118 inf77 rfl rfl rfl rfl (h9.le (hle87.trans hle98)) rfl (fun w ho => Rd.own (i := 0) ho rfl) ⟨⟨[.int .i64 (x82)], _, rfl, rfl, rfl⟩, trivial⟩ h108) ?_
    rintro _ _ ⟨hs109, rfl, h110⟩
    obtain ⟨A111, c112, rfl, _⟩ := h110.form
    refine t_do rfl (u_store 2 rfl rfl siz118 rfl rfl (by simp)) ?_
    rintro _ _ rfl
    refine t_nil ?_
    obtain ⟨rfl, rfl⟩ := some2 hm
    refine x_pullb 2 rfl ?_
    refine x_pullb 2 rfl ?_
    refine x_pullb 4 rfl ?_
    refine x_front2 [_, _, _, _, _] hs109 hs104 R rfl ?_
    exact endM (hle87.trans hle98) rfl (.cons_cons _ (.cons_cons _ (.cons_cons _ (.cons _ (.cons _ (.refl _)))))) ⟨hs104, A111, c112, hs109, rfl, rfl, h106, h110, (OS.nz h110 (by simp))⟩
   ·
    rw [if_neg (fun hh => Bool.noConfusion (hh.symm.trans hc103))] at hm
    refine c_skip ?_
    obtain ⟨rfl, rfl⟩ := some2 hm
    refine x_pullb 1 rfl ?_
    refine x_pullb 1 rfl ?_
    refine x_pullb 3 rfl ?_
    refine x_front2 [_, _, _, _] hs2 hs6 R rfl ?_
    refine x_front2 [_, _, _, _] hs6 hs2 R rfl ?_
    have he113 := (h4.le (hle87.trans hle98))
    have he114 := (h9.le (hle87.trans hle98))
    exact endM (hle87.trans hle98) rfl (.cons_cons _ (.cons_cons _ (.cons_cons _ (.cons _ (.refl _))))) ⟨hs2, A7, c8, hs6, rfl, rfl, he113, he114, hnz37⟩

set_option maxRecDepth 20000 in
theorem cLineOuts (b : Base) (R : Hp) (x1 : Int) (x2 : Int) (l38 : (List Int)) (hm : mLineOuts x1 x2 = some l38) :
    CallsG Tryd.prog 26 [.int .i64 (x1), .int .i64 (x2)] b (R) (fun v b' hp' => ∃ (A35 : Option Addr), ∃ (c36 : Nat), .slice A35 (l38).length c36 = v ∧ R = hp' ∧ FZ (RT.int .i64) b'.w A35 c36 l38) := by
  refine fn_enterG 20 Tryd.func26 rfl Tryd.ntmps26 rfl ?_
  unfold mLineOuts at hm
  refine c_sr ?_
  refine t_as rfl rfl ?_
  refine t_ne ?_
  refine c_seq ?_
  refine c_block ?_
  obtain ⟨x42, hj43, hk43⟩ := bindS hm
  refine c_join (fun b40 e' hp' => [(0, .int .i64 (x1)), (1, .int .i64 (x2)), (5, .bool (x42))] = e' ∧ R = hp' ∧ b.Le b40) ?_ ?_
  ·
   have hm := hj43
   refine c_region ?_
   refine t_mv rfl rfl ?_
   refine t_bool rfl (st_eql rfl rfl) (fun hc44 => ?_) (fun hc44 => ?_)
   ·
    rw [if_pos hc44] at hm
    refine t_mv rfl rfl ?_
    refine t_yes 8 rfl rfl rfl ?_
    refine t_mv rfl rfl ?_
    refine t_yes 8 rfl rfl rfl ?_
    refine t_st rfl (st_eql rfl rfl) ?_
    refine t_st rfl (st_pick_t rfl rfl) ?_
    refine t_as rfl rfl ?_
    refine t_nil ?_
    obtain rfl := some1 hm
    exact x_join (e' := [(0, .int .i64 (x1)), (1, .int .i64 (x2)), (5, .bool (decide (x2 = 0)))]) ⟨rfl, rfl, rfl, trivial⟩ (.refl _) ⟨rfl, rfl, (Base.Le.refl _)⟩
   ·
    rw [if_neg hc44] at hm
    refine t_mv rfl rfl ?_
    refine t_no 8 rfl rfl rfl rfl rfl ?_
    refine t_no 8 rfl rfl rfl rfl rfl ?_
    refine t_st rfl (st_pick_f rfl rfl) ?_
    refine t_as rfl rfl ?_
    refine t_nil ?_
    obtain rfl := some1 hm
    exact x_join (e' := [(0, .int .i64 (x1)), (1, .int .i64 (x2)), (5, .bool (false))]) ⟨rfl, rfl, rfl, trivial⟩ (.refl _) ⟨rfl, rfl, (Base.Le.refl _)⟩
  ·
   rintro b40 _ _ ⟨rfl, rfl, hle41⟩
   have hm := hk43
   refine c_cond _ rfl (fun hc45 => ?_) (fun hc45 => ?_)
   ·
    rw [if_pos hc45] at hm
    refine c_sr ?_
    refine t_do rfl (u_bslice (el := 3) [(0, .int .i64 (1)), (1, .int .i64 (2))] [.int .i64 (1), .int .i64 (2)] rfl (fun _ => by kernel_rfl)) ?_
    rintro _ _ ⟨g46, rfl, rfl⟩
    refine t_as rfl rfl ?_
    refine t_ne ?_
    refine c_ret ?_
    refine x_block_ret ?_
    refine x_then_ret ?_
    refine x_seg 0 [] R rfl rfl ?_
    have h48 : OS 3 (OT.fr (RT.int .i64)) b40.w (.slice (some ⟨g46, 0, none⟩) 2 2) [1, 2] [(g46, Cl 3 [.int .i64 (1), .int .i64 (2)])] := OS.lit [[.int .i64 (1)], [.int .i64 (2)]] rfl ⟨rfl, ⟨rfl, trivial⟩⟩ rfl (by decide)
    have hnz49 : (((some ⟨g46, 0, none⟩) : Option Addr) = none ↔ [1, 2] = []) := ⟨nofun, nofun⟩
    refine x_frz [] [(g46, Cl 3 [.int .i64 (1), .int .i64 (2)])] R rfl ?_
    intro b50 hle51 hz52
    have h53 := OS.frz (l := [1, 2]) h48 hle51.cells hz52
    obtain rfl := some1 hm
    exact retM (rs := [.tmp 4]) [.slice (some ⟨g46, 0, none⟩) ([1, 2]).length 2] (hle41.trans hle51) (by decide) rfl ⟨rfl, trivial⟩ rfl (.refl _) ⟨(some ⟨g46, 0, none⟩), 2, rfl, rfl, h53⟩
   ·
    rw [if_neg (fun hh => Bool.noConfusion (hh.symm.trans hc45))] at hm
    refine c_sr ?_
    refine t_mv rfl rfl ?_
    refine t_st rfl (st_eql rfl rfl) ?_
    refine t_as rfl rfl ?_
    refine t_ne ?_
    refine c_cond _ rfl (fun hc54 => ?_) (fun hc54 => ?_)
    ·
     rw [if_pos (of_decide_eq_true hc54)] at hm
     refine c_sr ?_
     refine t_do rfl (u_bslice (el := 3) [(0, .int .i64 (0))] [.int .i64 (0)] rfl (fun _ => by kernel_rfl)) ?_
     rintro _ _ ⟨g55, rfl, rfl⟩
     refine t_as rfl rfl ?_
     refine t_ne ?_
     refine c_ret ?_
     refine x_block_ret ?_
     refine x_then_ret ?_
     refine x_seg 0 [] R rfl rfl ?_
     have h57 : OS 3 (OT.fr (RT.int .i64)) b40.w (.slice (some ⟨g55, 0, none⟩) 1 1) [0] [(g55, Cl 3 [.int .i64 (0)])] := OS.lit [[.int .i64 (0)]] rfl ⟨rfl, trivial⟩ rfl (by decide)
     have hnz58 : (((some ⟨g55, 0, none⟩) : Option Addr) = none ↔ [0] = []) := ⟨nofun, nofun⟩
     refine x_frz [] [(g55, Cl 3 [.int .i64 (0)])] R rfl ?_
     intro b59 hle60 hz61
     have h62 := OS.frz (l := [0]) h57 hle60.cells hz61
     obtain rfl := some1 hm
     exact retM (rs := [.tmp 4]) [.slice (some ⟨g55, 0, none⟩) ([0]).length 1] (hle41.trans hle60) (by decide) rfl ⟨rfl, trivial⟩ rfl (.refl _) ⟨(some ⟨g55, 0, none⟩), 1, rfl, rfl, h62⟩
    ·
     rw [if_neg (of_decide_eq_false hc54)] at hm
     refine c_skip ?_
     refine x_block_normal ?_
     refine x_then_normal ?_
     refine c_sr ?_
     refine t_mv rfl rfl ?_
     refine t_st rfl (st_xor rfl rfl) ?_
     refine t_do rfl (u_bslice (el := 3) [(0, .int .i64 (xorI .i64 x2 1))] [.int .i64 (xorI .i64 x2 1)] rfl (fun _ => by kernel_rfl)) ?_
     rintro _ _ ⟨g63, rfl, rfl⟩
     refine t_as rfl rfl ?_
     refine t_ne ?_
     refine c_ret ?_
     refine x_seg 0 [] R rfl rfl ?_
     have h65 : OS 3 (OT.fr (RT.int .i64)) b40.w (.slice (some ⟨g63, 0, none⟩) 1 1) [xorI .i64 x2 1] [(g63, Cl 3 [.int .i64 (xorI .i64 x2 1)])] := OS.lit [[.int .i64 (xorI .i64 x2 1)]] rfl ⟨rfl, trivial⟩ rfl (by decide)
     have hnz66 : (((some ⟨g63, 0, none⟩) : Option Addr) = none ↔ [xorI .i64 x2 1] = []) := ⟨nofun, nofun⟩
     refine x_frz [] [(g63, Cl 3 [.int .i64 (xorI .i64 x2 1)])] R rfl ?_
     intro b67 hle68 hz69
     have h70 := OS.frz (l := [xorI .i64 x2 1]) h65 hle68.cells hz69
     obtain rfl := some1 hm
     exact retM (rs := [.tmp 4]) [.slice (some ⟨g63, 0, none⟩) ([xorI .i64 x2 1]).length 1] (hle41.trans hle68) (by decide) rfl ⟨rfl, trivial⟩ rfl (.refl _) ⟨(some ⟨g63, 0, none⟩), 1, rfl, rfl, h70⟩

set_option maxRecDepth 20000 in
theorem cLineDistances_1_2 (b : Base) (R : Hp) (s13 : LineEnd) (x14 : Int) (l18 : (List ByteArray)) (l22 : (List ApiSection)) (l26 : (List ApiLink)) (l30 : (List ApiSignal)) (l34 : (List ApiGate)) (l35 : (List (LineEnd × Int))) (l36 : (List LineEnd)) (g10 : Nat) (g11 : Nat) (g12 : Nat) (A15 : Option Addr) (c16 : Nat) (A19 : Option Addr) (c20 : Nat) (A23 : Option Addr) (c24 : Nat) (A27 : Option Addr) (c28 : Nat) (A31 : Option Addr) (c32 : Nat) (g3 : Nat) (hs2 : Hp) (A7 : Option Addr) (c8 : Nat) (hs6 : Hp) (h17 : FZ RT.str b.w A15 c16 l18) (h21 : FZ rApiSection b.w A19 c20 l22) (h25 : FZ rApiLink b.w A23 c24 l26) (h29 : FZ rApiSignal b.w A27 c28 l30) (h33 : FZ rApiGate b.w A31 c32 l34) (h4 : OM rLineEnd (OT.fr (RT.int .i64)) true false b.w g3 l35 hs2) (h9 : OS 77 (OT.fr rLineEnd) b.w (.slice A7 l36.length c8) l36 hs6) (l77 : (List (LineEnd × Int))) (l78 : (List LineEnd)) (hm : mLineDistances_1_2 s13 x14 l18 l22 l26 l30 l34 l35 l36 = some (l77, l78)) :
    CallsG Tryd.prog 51 [.agg #[.int .i64 (s13.section_), .int .i64 (s13.end_)], .int .i64 (x14), .pointer (some ⟨g10, 0, none⟩), .pointer (some ⟨g11, 0, none⟩), .pointer (some ⟨g12, 0, none⟩)] b ((g10, Cl 28 [.slice A15 (l18).length c16, .slice A19 (l22).length c20, .slice A23 (l26).length c24, .slice A27 (l30).length c28, .slice A31 (l34).length c32]) :: (g11, Cl 86 [.map (some g3)]) :: (g12, Cl 118 [.slice A7 (l36).length c8]) :: (hs2 ++ (hs6 ++ R))) (fun v b' hp' => ∃ (hs70 : Hp), ∃ (A74 : Option Addr), ∃ (c75 : Nat), ∃ (hs73 : Hp), .tuple #[] = v ∧ (g10, Cl 28 [.slice A15 (l18).length c16, .slice A19 (l22).length c20, .slice A23 (l26).length c24, .slice A27 (l30).length c28, .slice A31 (l34).length c32]) :: (g11, Cl 86 [.map (some g3)]) :: (g12, Cl 118 [.slice A74 (l78).length c75]) :: (hs70 ++ (hs73 ++ R)) = hp' ∧ OM rLineEnd (OT.fr (RT.int .i64)) true false b'.w g3 l77 hs70 ∧ OS 77 (OT.fr rLineEnd) b'.w (.slice A74 l78.length c75) l78 hs73) := by
  refine fn_enterG 40 Tryd.func51 rfl Tryd.ntmps51 rfl ?_
  unfold mLineDistances_1_2 at hm
  refine c_sr ?_
  refine t_do rfl (u_box _ rfl rfl) ?_
  rintro _ _ ⟨g79, rfl, rfl⟩
  refine t_ne ?_
  refine c_sr ?_
  refine t_st rfl (st_loadD (vs := [_, _, _, _, _]) 1 5 rfl agg28 rfl rfl rfl) ?_
  refine t_st rfl (st_loadD (vs := [_, _]) 0 2 rfl agg77 rfl rfl rfl) ?_
  obtain ⟨⟨x80, x81, x82⟩, hcl83, hm⟩ := bindS hm
  have hm := (unc3E hm)
  refine t_callG _ rfl call27 rfl (cLineJoined _ _ (⟨l18, l22, l26, l30, l34⟩ : ApiNet) s13 A15 c16 A19 c20 A23 c24 A27 c28 A31 c32 h17 h21 h25 h29 h33 x80 x81 x82 hcl83) ?_
  rintro _ b84 _ hle85 ⟨rfl, rfl⟩
  refine t_mv rfl rfl ?_
  refine t_st rfl (st_extract rfl rfl) ?_
  refine t_st rfl (st_extract rfl rfl) ?_
  refine t_do rfl (u_alloc [.int .i64 0, .int .i64 0] zero77 rfl) ?_
  rintro _ _ ⟨g86, rfl, rfl⟩
  refine t_do rfl (u_storeN (vs := [_, _]) 0 2 rfl rfl rfl siz77 rfl (mem_c rfl (mem_c rfl mem_n)) rfl (by simp)) ?_
  rintro _ _ rfl
  refine t_as rfl rfl ?_
  refine t_ne ?_
  refine c_sr ?_
  refine t_st rfl (st_load 3 rfl one86 rfl rfl) ?_
  refine t_st rfl (st_loadD (vs := [_, _]) 0 2 rfl agg77 rfl rfl rfl) ?_
  obtain ⟨x90, h92, hm⟩ := bindS hm
  have hx91 := Option.some.inj h92
  obtain ⟨v87, hv88, hr89⟩ := OM.lookF kok77 (z0 := 0) (h4.le hle85) (key := .agg #[.int .i64 (x80), .int .i64 (x81)]) (k := (⟨x80, x81⟩ : LineEnd)) ⟨[.int .i64 (x80), .int .i64 (x81)], rfl, ⟨[.int .i64 (x80)], _, rfl, rfl, rfl⟩⟩ mapt86 zero3 rfl
  rw [hx91] at hv88
  obtain rfl : v87 = .int .i64 (x90) := by have hv88 : [v87] = [.int .i64 (x90)] := hv88; injection hv88
  refine t_st rfl (st_mlook (ok := true) rfl rfl (fun w ho => hr89 _ w ho (.cons _ (.cons _ (.cons _ (.cons _ (.cons _ (List.sublist_append_left _ _)))))) true)) ?_
  refine t_mv rfl rfl ?_
  refine t_st rfl (st_extract rfl rfl) ?_
  refine t_st rfl (st_extract rfl rfl) ?_
  refine t_as rfl rfl ?_
  refine t_as rfl rfl ?_
  refine t_ne ?_
  obtain ⟨x97, hj98, hk98⟩ := bindS hm
  refine c_join (fun b95 e' hp' => [(1, .int .i64 (x14)), (3, .pointer (some ⟨g11, 0, none⟩)), (4, .pointer (some ⟨g12, 0, none⟩)), (7, .pointer (some ⟨g86, 0, none⟩)), (32, .bool (x97))] = e' ∧ (g11, Cl 86 [.map (some g3)]) :: (g12, Cl 118 [.slice A7 (l36).length c8]) :: (g86, Cl 77 [.int .i64 (x80), .int .i64 (x81)]) :: (g10, Cl 28 [.slice A15 (l18).length c16, .slice A19 (l22).length c20, .slice A23 (l26).length c24, .slice A27 (l30).length c28, .slice A31 (l34).length c32]) :: (hs2 ++ (hs6 ++ R)) = hp' ∧ b84.Le b95) ?_ ?_
  ·
   have hm := hj98
   refine c_region ?_
   refine t_mv rfl rfl ?_
   rcases Bool.eq_false_or_eq_true x82 with hc99 | hc99
   ·
    rw [if_pos hc99] at hm
    refine t_resp 23 rfl (v' := .bool true) (by rw [hc99] <;> rfl) ?_
    refine t_mv rfl rfl ?_
    refine t_yes 24 rfl rfl rfl ?_
    refine t_mv rfl rfl ?_
    rcases Bool.eq_false_or_eq_true (mhas l35 (⟨x80, x81⟩ : LineEnd)) with hc100 | hc100
    ·
     rw [if_pos hc100] at hm
     refine t_resp 25 rfl (v' := .bool true) (by rw [hc100] <;> rfl) ?_
     refine t_yes 24 rfl rfl rfl ?_
     refine t_st rfl (st_not_t rfl) ?_
     refine t_yes 24 rfl rfl rfl ?_
     refine t_mv rfl rfl ?_
     refine t_yes 27 rfl rfl rfl ?_
     refine t_mv rfl rfl ?_
     refine t_yes 27 rfl rfl rfl ?_
     refine t_mv rfl rfl ?_
     refine t_yes 27 rfl rfl rfl ?_
     refine t_st rfl (st_lss rfl rfl) ?_
     refine t_yes 24 rfl rfl rfl ?_
     refine t_st rfl (st_pick_f rfl rfl) ?_
     refine t_st rfl (st_pick_t rfl rfl) ?_
     refine t_nil ?_
     obtain rfl := some1 hm
     refine x_pullb 2 rfl ?_
     refine x_pullb 1 rfl ?_
     refine x_pullb 4 rfl ?_
     refine x_pullb 4 rfl ?_
     refine x_front2 [_, _, _, _, _] hs2 hs6 R rfl ?_
     refine x_front2 [_, _, _, _, _] hs6 hs2 R rfl ?_
     exact x_join (e' := [(1, .int .i64 (x14)), (3, .pointer (some ⟨g11, 0, none⟩)), (4, .pointer (some ⟨g12, 0, none⟩)), (7, .pointer (some ⟨g86, 0, none⟩)), (32, .bool (decide (x14 < x90)))]) ⟨rfl, rfl, rfl, rfl, rfl, trivial⟩ (.cons_cons _ (.cons_cons _ (.cons_cons _ (.cons_cons _ (.cons _ (.refl _)))))) ⟨rfl, rfl, (Base.Le.refl _)⟩
    ·
     rw [if_neg (fun hh => Bool.noConfusion (hh.symm.trans hc100))] at hm
     refine t_resp 25 rfl (v' := .bool false) (by rw [hc100] <;> rfl) ?_
     refine t_yes 24 rfl rfl rfl ?_
     refine t_st rfl (st_not_f rfl) ?_
     refine t_yes 24 rfl rfl rfl ?_
     refine t_mv rfl rfl ?_
     refine t_no 27 rfl rfl rfl rfl rfl ?_
     refine t_no 27 rfl rfl rfl rfl rfl ?_
     refine t_no 27 rfl rfl rfl rfl rfl ?_
     refine t_yes 24 rfl rfl rfl ?_
     refine t_st rfl (st_pick_t rfl rfl) ?_
     refine t_st rfl (st_pick_t rfl rfl) ?_
     refine t_nil ?_
     obtain rfl := some1 hm
     refine x_pullb 2 rfl ?_
     refine x_pullb 1 rfl ?_
     refine x_pullb 4 rfl ?_
     refine x_pullb 4 rfl ?_
     refine x_front2 [_, _, _, _, _] hs2 hs6 R rfl ?_
     refine x_front2 [_, _, _, _, _] hs6 hs2 R rfl ?_
     exact x_join (e' := [(1, .int .i64 (x14)), (3, .pointer (some ⟨g11, 0, none⟩)), (4, .pointer (some ⟨g12, 0, none⟩)), (7, .pointer (some ⟨g86, 0, none⟩)), (32, .bool (true))]) ⟨rfl, rfl, rfl, rfl, rfl, trivial⟩ (.cons_cons _ (.cons_cons _ (.cons_cons _ (.cons_cons _ (.cons _ (.refl _)))))) ⟨rfl, rfl, (Base.Le.refl _)⟩
   ·
    rw [if_neg (fun hh => Bool.noConfusion (hh.symm.trans hc99))] at hm
    refine t_resp 23 rfl (v' := .bool false) (by rw [hc99] <;> rfl) ?_
    refine t_mv rfl rfl ?_
    refine t_no 24 rfl rfl rfl rfl rfl ?_
    refine t_no 24 rfl rfl rfl rfl rfl ?_
    refine t_no 24 rfl rfl rfl rfl rfl ?_
    refine t_no 27 rfl rfl rfl rfl rfl ?_
    refine t_no 27 rfl rfl rfl rfl rfl ?_
    refine t_no 27 rfl rfl rfl rfl rfl ?_
    refine t_no 24 rfl rfl rfl rfl rfl ?_
    refine t_st rfl (st_pick_f rfl rfl) ?_
    refine t_nil ?_
    obtain rfl := some1 hm
    refine x_pullb 2 rfl ?_
    refine x_pullb 1 rfl ?_
    refine x_pullb 4 rfl ?_
    refine x_pullb 4 rfl ?_
    refine x_front2 [_, _, _, _, _] hs2 hs6 R rfl ?_
    refine x_front2 [_, _, _, _, _] hs6 hs2 R rfl ?_
    exact x_join (e' := [(1, .int .i64 (x14)), (3, .pointer (some ⟨g11, 0, none⟩)), (4, .pointer (some ⟨g12, 0, none⟩)), (7, .pointer (some ⟨g86, 0, none⟩)), (32, .bool (false))]) ⟨rfl, rfl, rfl, rfl, rfl, trivial⟩ (.cons_cons _ (.cons_cons _ (.cons_cons _ (.cons_cons _ (.cons _ (.refl _)))))) ⟨rfl, rfl, (Base.Le.refl _)⟩
  ·
   rintro b95 _ _ ⟨rfl, rfl, hle96⟩
   have hm := hk98
   refine c_cond _ rfl (fun hc101 => ?_) (fun hc101 => ?_)
   ·
    rw [if_pos hc101] at hm
    refine c_sr ?_
    refine t_st rfl (st_load 0 rfl one86 rfl rfl) ?_
    refine t_st rfl (st_loadD (vs := [_, _]) 2 2 rfl agg77 rfl rfl rfl) ?_
    refine t_mv rfl rfl ?_
    refine t_do rfl (u_mputF (k := (⟨x80, x81⟩ : LineEnd)) kok77 [_, _, _, _] [] (hs6 ++ R) rfl (h4.le (hle85.trans hle96)) mapt86 rfl rfl rfl (⟨[.int .i64 (x80), .int .i64 (x81)], rfl, ⟨[.int .i64 (x80)], _, rfl, rfl, rfl⟩⟩) ⟨rfl, rfl⟩ _ (.inl rfl)) ?_
    rintro _ _ ⟨hs102, rfl, hsub103, h104⟩
    refine t_ne ?_
    refine c_region ?_
    refine t_st rfl (st_load 1 rfl one118 rfl rfl) ?_
    refine t_st rfl (st_loadD (vs := [_, _]) 2 2 rfl agg77 rfl rfl rfl) ?_
    refine t_do rfl (u_bslice (el := 77) [(0, .agg #[.int .i64 (x80), .int .i64 (x81)])] [.int .i64 (x80), .int .i64 (x81)] rfl (fun _ => by kernel_rfl)) ?_
    rintro _ _ ⟨g105, rfl, rfl⟩
    obtain ⟨_, h106, hm⟩ := bindS hm
    have h106 := room_some h106
    refine t_front2 [_, _, _, _, _] hs102 hs6 R rfl ?_
    refine t_do rfl (u_appOS (r := rLineEnd) (l := l36) [_, _, _, _, _] (hs102 ++ R) [[.int .i64 (x80), .int .i64 (x81)]] [(⟨x80, x81⟩ : LineEnd)] rfl (by decide) sl118 inf77 rfl rfl rfl rfl (h9.le (hle85.trans hle96)) rfl (fun w ho => Rd.own (i := 0) ho rfl) ⟨⟨[.int .i64 (x80)], _, rfl, rfl, rfl⟩, trivial⟩ h106) ?_
    rintro _ _ ⟨hs107, rfl, h108⟩
    obtain ⟨A109, c110, rfl, _⟩ := h108.form
    refine t_do rfl (u_store 2 rfl rfl siz118 rfl rfl (by simp)) ?_
    rintro _ _ rfl
    refine t_nil ?_
    obtain ⟨rfl, rfl⟩ := some2 hm
    refine x_pullb 2 rfl ?_
    refine x_pullb 2 rfl ?_
    refine x_pullb 4 rfl ?_
    refine x_front2 [_, _, _, _, _] hs107 hs102 R rfl ?_
    exact endM (hle85.trans hle96) rfl (.cons_cons _ (.cons_cons _ (.cons_cons _ (.cons _ (.cons _ (.refl _)))))) ⟨hs102, A109, c110, hs107, rfl, rfl, h104, h108⟩
   ·
    rw [if_neg (fun hh => Bool.noConfusion (hh.symm.trans hc101))] at hm
    refine c_skip ?_
    obtain ⟨rfl, rfl⟩ := some2 hm
    refine x_pullb 1 rfl ?_
    refine x_pullb 1 rfl ?_
    refine x_pullb 3 rfl ?_
    refine x_front2 [_, _, _, _] hs2 hs6 R rfl ?_
    refine x_front2 [_, _, _, _] hs6 hs2 R rfl ?_
    have he111 := (h4.le (hle85.trans hle96))
    have he112 := (h9.le (hle85.trans hle96))
    exact endM (hle85.trans hle96) rfl (.cons_cons _ (.cons_cons _ (.cons_cons _ (.cons _ (.refl _))))) ⟨hs2, A7, c8, hs6, rfl, rfl, he111, he112⟩

set_option maxRecDepth 20000 in
theorem cLineDistances (b : Base) (R : Hp) (s1 : ApiNet) (l20 : (List Int)) (A2 : Option Addr) (c3 : Nat) (A5 : Option Addr) (c6 : Nat) (A8 : Option Addr) (c9 : Nat) (A11 : Option Addr) (c12 : Nat) (A14 : Option Addr) (c15 : Nat) (A17 : Option Addr) (c18 : Nat) (h4 : FZ RT.str b.w A2 c3 s1.Stations) (h7 : FZ rApiSection b.w A5 c6 s1.Sections) (h10 : FZ rApiLink b.w A8 c9 s1.Links) (h13 : FZ rApiSignal b.w A11 c12 s1.Signals) (h16 : FZ rApiGate b.w A14 c15 s1.Gates) (h19 : FZ (RT.int .i64) b.w A17 c18 l20) (l1499 : (List (LineEnd × Int))) (hm : mLineDistances s1 l20 = some l1499) :
    CallsG Tryd.prog 30 [.agg #[.slice A2 (s1.Stations).length c3, .slice A5 (s1.Sections).length c6, .slice A8 (s1.Links).length c9, .slice A11 (s1.Signals).length c12, .slice A14 (s1.Gates).length c15], .slice A17 (l20).length c18] b (R) (fun v b' hp' => ∃ (g1497 : Nat), ∃ (hs1496 : Hp), .map (some g1497) = v ∧ (hs1496 ++ R) = hp' ∧ OM rLineEnd (OT.fr (RT.int .i64)) true false b'.w g1497 l1499 hs1496) := by
  refine fn_enterG 69 Tryd.func30 rfl Tryd.ntmps30 rfl ?_
  unfold mLineDistances at hm
  refine c_sr ?_
  refine t_do rfl (u_box _ rfl rfl) ?_
  rintro _ _ ⟨g1500, rfl, rfl⟩
  refine t_as rfl rfl ?_
  refine t_ne ?_
  refine c_sr ?_
  refine t_do rfl (u_mmap rLineEnd (OT.fr (RT.int .i64)) true false [_] R rfl) ?_
  rintro _ _ ⟨g1501, hs1502, rfl, rfl, h1503⟩
  refine t_do rfl (u_alloc [.map none] zero86 rfl) ?_
  rintro _ _ ⟨g1504, rfl, rfl⟩
  refine t_do rfl (u_store 0 rfl rfl siz86 rfl rfl (by simp)) ?_
  rintro _ _ rfl
  refine t_ne ?_
  refine c_sr ?_
  refine t_do rfl (u_alloc [.slice none 0 0] zero118 rfl) ?_
  rintro _ _ ⟨g1505, rfl, rfl⟩
  refine t_ne ?_
  refine c_sr ?_
  refine t_st rfl (st_func _ _ rfl rfl) ?_
  refine t_as rfl rfl ?_
  refine t_ne ?_
  refine c_seq ?_
  refine c_sr ?_
  refine t_mv rfl rfl ?_
  refine t_st rfl (st_len rfl sl48) ?_
  refine t_mv rfl rfl ?_
  refine t_ne ?_
  refine c_block ?_
  have hb1507 : l20.length ≤ 9223372036854775807 := (FZ.bd h19)
  refine c_pullb 1 rfl ?_
  refine c_pullb 2 rfl ?_
  obtain ⟨⟨l1597, l1598⟩, hl1601, hk1602⟩ := bindS hm
  refine c_forS (fun k1600 => unc2 fun l1597 l1598 => fun b1587 e' hp' => ∃ (hs1590 : Hp), ∃ (A1594 : Option Addr), ∃ (c1595 : Nat), ∃ (hs1593 : Hp), [(2, .pointer (some ⟨g1500, 0, none⟩)), (5, .pointer (some ⟨g1504, 0, none⟩)), (6, .pointer (some ⟨g1505, 0, none⟩)), (7, .func (.func 51) #[] #[.pointer (some ⟨g1500, 0, none⟩), .pointer (some ⟨g1504, 0, none⟩), .pointer (some ⟨g1505, 0, none⟩)]), (16, .slice A17 (l20).length c18), (17, .int .i64 ((l20.length : Int))), (18, .int .i64 ((k1600 : Int)))] = e' ∧ (g1500, Cl 28 [.slice A2 (s1.Stations).length c3, .slice A5 (s1.Sections).length c6, .slice A8 (s1.Links).length c9, .slice A11 (s1.Signals).length c12, .slice A14 (s1.Gates).length c15]) :: (g1504, Cl 86 [.map (some g1501)]) :: (g1505, Cl 118 [.slice A1594 (l1598).length c1595]) :: (hs1590 ++ (hs1593 ++ R)) = hp' ∧ b.Le b1587 ∧ OM rLineEnd (OT.fr (RT.int .i64)) true false b1587.w g1501 l1597 hs1590 ∧ OS 77 (OT.fr rLineEnd) b1587.w (.slice A1594 l1598.length c1595) l1598 hs1593 ∧ (A1594 = none ↔ l1598 = [])) hl1601 (e' := [(2, .pointer (some ⟨g1500, 0, none⟩)), (5, .pointer (some ⟨g1504, 0, none⟩)), (6, .pointer (some ⟨g1505, 0, none⟩)), (7, .func (.func 51) #[] #[.pointer (some ⟨g1500, 0, none⟩), .pointer (some ⟨g1504, 0, none⟩), .pointer (some ⟨g1505, 0, none⟩)]), (16, .slice A17 (l20).length c18), (17, .int .i64 ((l20.length : Int))), (18, .int .i64 0)]) ⟨rfl, rfl, rfl, rfl, rfl, rfl, rfl, trivial⟩ (.refl _) ⟨hs1502, none, 0, [], rfl, rfl, (Base.Le.refl _), h1503, OS.nil, ⟨fun _ => rfl, fun _ => rfl⟩⟩ ?_ ?_
  ·
   rintro k1600 ⟨l1597, l1598⟩ b1587 _ _ oL1506 hknL1506 ⟨hs1590, A1594, c1595, hs1593, rfl, rfl, hle1588, h1591, h1596, hnz1599⟩ hstepL1506
   unfold mLineDistances_L1506 at hstepL1506
   have hm := (unc2E hstepL1506)
   refine c_sr ?_
   refine t_st rfl (st_lss_t rfl rfl (by omega)) ?_
   refine t_ne ?_
   refine c_seq ?_
   refine c_cond_t rfl ?_
   refine c_skip ?_
   refine x_then_normal ?_
   refine c_seq ?_
   refine c_block ?_
   refine c_sr ?_
   obtain ⟨x1603, h1604, hm⟩ := bindS hm
   obtain ⟨j1605, hj1606, hx1607⟩ := idx_some h1604
   obtain ⟨cs1608, hr1609, hcs1610, hA1611, hlt1612⟩ := FZ.get (sz := 1) rfl (by decide) (h19.le hle1588) hx1607
   obtain rfl := hr1609
   refine t_st rfl (st_index_old j1605 rfl rfl hj1606 hlt1612 hA1611 sl48) ?_
   refine t_st rfl (st_load_old rfl one3 (hcs1610 0 _ rfl)) ?_
   refine t_as rfl rfl ?_
   refine t_ne ?_
   refine c_sr ?_
   refine t_mv rfl rfl ?_
   refine t_mv rfl rfl ?_
   refine t_st rfl (st_build (v := .agg #[.int .i64 (x1603), .int .i64 (0)]) [(0, .int .i64 (x1603)), (1, .int .i64 (0))] rfl (fun _ => by kernel_rfl)) ?_
   obtain ⟨⟨l1613, l1614⟩, hcl1615, hm⟩ := bindS hm
   have hm := (unc2E hm)
   refine t_pullb 2 rfl ?_
   refine t_pullb 2 rfl ?_
   refine t_pullb 2 rfl ?_
   refine t_front2 [_, _, _] hs1590 hs1593 R rfl ?_
   refine t_front2 [_, _, _] hs1593 hs1590 R rfl ?_
   refine t_out2 [_, _, _] [] hs1590 hs1593 R rfl ?_
   refine t_callvG #[] #[.pointer (some ⟨g1500, 0, none⟩), .pointer (some ⟨g1504, 0, none⟩), .pointer (some ⟨g1505, 0, none⟩)] [.agg #[.int .i64 (x1603), .int .i64 (0)], .int .i64 (0)] rfl rfl call51 rfl (cLineDistances_1 _ _ (⟨x1603, 0⟩ : LineEnd) 0 s1.Stations s1.Sections s1.Links s1.Signals s1.Gates l1597 l1598 g1500 g1504 g1505 A2 c3 A5 c6 A8 c9 A11 c12 A14 c15 g1501 hs1590 A1594 c1595 hs1593 (h4.le hle1588) (h7.le hle1588) (h10.le hle1588) (h13.le hle1588) (h16.le hle1588) h1591 h1596 hnz1599 l1613 l1614 hcl1615) ?_
   rintro _ b1616 _ hle1617 ⟨hs1618, A1619, c1620, hs1621, rfl, rfl, h1622, h1623, h1624⟩
   refine t_in2 [_, _, _] [] hs1618 hs1621 R rfl ?_
   refine t_ne ?_
   refine c_region ?_
   refine t_mv rfl rfl ?_
   refine t_mv rfl rfl ?_
   refine t_st rfl (st_build (v := .agg #[.int .i64 (x1603), .int .i64 (1)]) [(0, .int .i64 (x1603)), (1, .int .i64 (1))] rfl (fun _ => by kernel_rfl)) ?_
   obtain ⟨⟨l1625, l1626⟩, hcl1627, hm⟩ := bindS hm
   have hm := (unc2E hm)
   refine t_pullb 2 rfl ?_
   refine t_pullb 2 rfl ?_
   refine t_pullb 2 rfl ?_
   refine t_front2 [_, _, _] hs1618 hs1621 R rfl ?_
   refine t_front2 [_, _, _] hs1621 hs1618 R rfl ?_
   refine t_out2 [_, _, _] [] hs1618 hs1621 R rfl ?_
   refine t_callvG #[] #[.pointer (some ⟨g1500, 0, none⟩), .pointer (some ⟨g1504, 0, none⟩), .pointer (some ⟨g1505, 0, none⟩)] [.agg #[.int .i64 (x1603), .int .i64 (1)], .int .i64 (0)] rfl rfl call51 rfl (cLineDistances_1 _ _ (⟨x1603, 1⟩ : LineEnd) 0 s1.Stations s1.Sections s1.Links s1.Signals s1.Gates l1613 l1614 g1500 g1504 g1505 A2 c3 A5 c6 A8 c9 A11 c12 A14 c15 g1501 hs1618 A1619 c1620 hs1621 (h4.le (hle1588.trans hle1617)) (h7.le (hle1588.trans hle1617)) (h10.le (hle1588.trans hle1617)) (h13.le (hle1588.trans hle1617)) (h16.le (hle1588.trans hle1617)) h1622 h1623 h1624 l1625 l1626 hcl1627) ?_
   rintro _ b1628 _ hle1629 ⟨hs1630, A1631, c1632, hs1633, rfl, rfl, h1634, h1635, h1636⟩
   refine t_in2 [_, _, _] [] hs1630 hs1633 R rfl ?_
   refine t_nil ?_
   refine x_block_normal ?_
   refine x_then_normal ?_
   refine c_region ?_
   refine t_st rfl (st_add rfl rfl (by omega)) ?_
   refine t_mv rfl rfl ?_
   refine t_nil ?_
   refine x_pullb 2 rfl ?_
   refine x_pullb 2 rfl ?_
   refine x_pullb 2 rfl ?_
   refine x_front2 [_, _, _] hs1630 hs1633 R rfl ?_
   refine x_front2 [_, _, _] hs1633 hs1630 R rfl ?_
   obtain rfl := some1 hm
   exact x_againS (e' := [(2, .pointer (some ⟨g1500, 0, none⟩)), (5, .pointer (some ⟨g1504, 0, none⟩)), (6, .pointer (some ⟨g1505, 0, none⟩)), (7, .func (.func 51) #[] #[.pointer (some ⟨g1500, 0, none⟩), .pointer (some ⟨g1504, 0, none⟩), .pointer (some ⟨g1505, 0, none⟩)]), (16, .slice A17 (l20).length c18), (17, .int .i64 ((l20.length : Int))), (18, .int .i64 ((k1600 : Int) + 1))]) ⟨rfl, rfl, rfl, rfl, rfl, rfl, rfl, trivial⟩ (.refl _) ⟨hs1630, A1631, c1632, hs1633, rfl, rfl, ((hle1588.trans (hle1617.trans hle1629))), h1634, h1635, h1636⟩
  ·
   rintro b1587 _ _ ⟨hs1590, A1594, c1595, hs1593, rfl, rfl, hle1588, h1591, h1596, hnz1599⟩
   have hm := (unc2E hk1602)
   refine c_sr ?_
   refine t_st rfl (st_lss_f rfl rfl (by omega)) ?_
   refine t_ne ?_
   refine c_seq ?_
   refine c_cond_f rfl ?_
   refine c_exit ?_
   refine x_then_exit ?_
   refine x_then_exit ?_
   refine x_block_out ?_
   refine x_then_normal ?_
   obtain ⟨l2307, hj2308, hk2308⟩ := bindS hm
   refine c_join (fun b2302 e' hp' => ∃ (hs2305 : Hp), [(5, .pointer (some ⟨g1504, 0, none⟩))] = e' ∧ (g1504, Cl 86 [.map (some g1501)]) :: (hs2305 ++ R) = hp' ∧ b1587.Le b2302 ∧ OM rLineEnd (OT.fr (RT.int .i64)) true false b2302.w g1501 l2307 hs2305) ?_ ?_
   ·
    have hm := hj2308
    refine c_block ?_
    refine c_pullb 2 rfl ?_
    refine c_pullb 2 rfl ?_
    refine c_pullb 2 rfl ?_
    refine c_front2 [_, _, _] hs1590 hs1593 R rfl ?_
    refine c_front2 [_, _, _] hs1593 hs1590 R rfl ?_
    refine c_loopM (unc2 fun l2758 l2759 => fun b2748 e' hp' => ∃ (hs2751 : Hp), ∃ (A2755 : Option Addr), ∃ (c2756 : Nat), ∃ (hs2754 : Hp), [(2, .pointer (some ⟨g1500, 0, none⟩)), (5, .pointer (some ⟨g1504, 0, none⟩)), (6, .pointer (some ⟨g1505, 0, none⟩)), (7, .func (.func 51) #[] #[.pointer (some ⟨g1500, 0, none⟩), .pointer (some ⟨g1504, 0, none⟩), .pointer (some ⟨g1505, 0, none⟩)])] = e' ∧ (g1500, Cl 28 [.slice A2 (s1.Stations).length c3, .slice A5 (s1.Sections).length c6, .slice A8 (s1.Links).length c9, .slice A11 (s1.Signals).length c12, .slice A14 (s1.Gates).length c15]) :: (g1504, Cl 86 [.map (some g1501)]) :: (g1505, Cl 118 [.slice A2755 (l2759).length c2756]) :: (hs2751 ++ (hs2754 ++ R)) = hp' ∧ b1587.Le b2748 ∧ OM rLineEnd (OT.fr (RT.int .i64)) true false b2748.w g1501 l2758 hs2751 ∧ OS 77 (OT.fr rLineEnd) b2748.w (.slice A2755 l2759.length c2756) l2759 hs2754) hm (e' := [(2, .pointer (some ⟨g1500, 0, none⟩)), (5, .pointer (some ⟨g1504, 0, none⟩)), (6, .pointer (some ⟨g1505, 0, none⟩)), (7, .func (.func 51) #[] #[.pointer (some ⟨g1500, 0, none⟩), .pointer (some ⟨g1504, 0, none⟩), .pointer (some ⟨g1505, 0, none⟩)])]) ⟨rfl, rfl, rfl, rfl, trivial⟩ (.refl _) ⟨hs1590, A1594, c1595, hs1593, rfl, rfl, (Base.Le.refl _), h1591, h1596⟩ ?_
    rintro ⟨l2758, l2759⟩ b2748 _ _ oL2309 ⟨hs2751, A2755, c2756, hs2754, rfl, rfl, hle2749, h2752, h2757⟩ hstepL2309 houtL2309
    unfold mLineDistances_L2309 at hstepL2309
    have hm := (unc2E hstepL2309)
    refine c_seq ?_
    refine c_sr ?_
    refine t_st rfl (st_load 2 rfl one118 rfl rfl) ?_
    refine t_st rfl (st_len rfl sl118) ?_
    refine t_st rfl (st_gtr rfl rfl) ?_
    refine t_ne ?_
    refine c_cond _ rfl (fun hc2760 => ?_) (fun hc2760 => ?_)
    ·
     rw [if_pos (of_decide_eq_true hc2760)] at hm
     refine c_skip ?_
     refine x_then_normal ?_
     refine c_block ?_
     refine c_sr ?_
     refine t_st rfl (st_load 2 rfl one118 rfl rfl) ?_
     obtain ⟨x2761, h2762, hm⟩ := bindS hm
     obtain ⟨j2763, hj2764, hx2765⟩ := idx_some h2762
     obtain ⟨cs2766, hs2771, P2772, P2773, hq2774, hr2767, hcs2768, hA2769, hlt2770, hb2775, hho2776⟩ := OS.get (sz := 2) rfl (by decide) h2757 hx2765
     obtain ⟨⟨_, _, rfl, rfl, rfl⟩, rfl⟩ := hr2767
     refine t_st rfl (st_index_old j2763 rfl rfl hj2764 hlt2770 hA2769 sl118) ?_
     refine t_st rfl (st_loadN_rd (vs := [.int .i64 (x2761.section_), .int .i64 (x2761.end_)]) 2 rfl agg77 hA2769 rfl (fun w ho j u hu => hcs2768 w _ ho (.cons _ (.cons _ (.cons _ (sub_skip hs2751 (List.sublist_append_left _ _))))) j u hu)) ?_
     refine t_do rfl (u_alloc [.int .i64 0, .int .i64 0] zero77 rfl) ?_
     rintro _ _ ⟨g2777, rfl, rfl⟩
     refine t_do rfl (u_storeN (vs := [_, _]) 0 2 rfl rfl rfl siz77 rfl (mem_c rfl (mem_c rfl mem_n)) rfl (by simp)) ?_
     rintro _ _ rfl
     refine t_ne ?_
     refine c_sr ?_
     refine t_st rfl (st_load 3 rfl one118 rfl rfl) ?_
     obtain ⟨l2778, h2779, hm⟩ := bindS hm
     obtain ⟨j2780, j2781, hj2782, hj2783, hj2784, hj2785, hx2786⟩ := cutS_some h2779
     have h2787 := OS.lc h2757
     refine t_st rfl (hx2786 ▸ st_part (l := l2759) j2780 j2781 rfl (.inr ⟨_, _, _, rfl, rfl, hj2782⟩) (.inl ⟨rfl, by omega⟩) hj2784 hj2785 h2787 sl118) ?_
     obtain ⟨hs2788, hq2789, h2790⟩ := OS.sub (sz := 2) rfl h2757 hj2784 hj2785
     rw [← hx2786] at h2790
     refine t_front2 [_, _, _, _] hs2751 hs2754 R rfl ?_
     refine t_less [_, _, _, _] hs2754 hs2788 (hs2751 ++ R) rfl hq2789 ?_
     refine t_do rfl (u_store 3 rfl rfl siz118 rfl rfl (by simp)) ?_
     rintro _ _ rfl
     refine t_ne ?_
     refine c_sr ?_
     refine t_st rfl (st_field rfl fld28_1) ?_
     refine t_st rfl (st_load 1 rfl one23 rfl rfl) ?_
     refine t_st rfl (st_field rfl fld77_0) ?_
     refine t_st rfl (st_load 0 rfl one3 rfl rfl) ?_
     obtain ⟨x2791, h2792, hm⟩ := bindS hm
     obtain ⟨j2793, hj2794, hx2795⟩ := idx_some h2792
     obtain ⟨cs2796, hr2797, hcs2798, hA2799, hlt2800⟩ := FZ.get (sz := 7) rfl (by decide) (h7.le (hle1588.trans hle2749)) hx2795
     obtain ⟨_, _, rfl, rfl, ⟨_, _, rfl, rfl, ⟨_, _, rfl, rfl, ⟨_, _, rfl, rfl, ⟨_, _, rfl, rfl, ⟨_, _, rfl, rfl, rfl⟩⟩⟩⟩⟩⟩ := hr2797
     refine t_st rfl (st_index_old j2793 rfl rfl hj2794 hlt2800 hA2799 sl23) ?_
     refine t_st rfl (st_loadN_old (vs := [.int .i64 (x2791.Kind), .int .i64 (x2791.Length), .int .i64 (x2791.Grade), .int .i64 (x2791.Speed), .int .i64 (x2791.Slow), .int .i64 (x2791.Station), .bool (x2791.Axles)]) 7 rfl agg58 hA2799 rfl (fun j u hu => hcs2798 j u hu)) ?_
     refine t_do rfl (u_alloc [.int .i64 0, .int .i64 0, .int .i64 0, .int .i64 0, .int .i64 0, .int .i64 0, .bool false] zero58 rfl) ?_
     rintro _ _ ⟨g2801, rfl, rfl⟩
     refine t_do rfl (u_storeN (vs := [_, _, _, _, _, _, _]) 0 7 rfl rfl rfl siz58 rfl (mem_c rfl (mem_c rfl (mem_c rfl (mem_c rfl (mem_c rfl (mem_c rfl (mem_c rfl mem_n))))))) rfl (by simp)) ?_
     rintro _ _ rfl
     refine t_ne ?_
     refine c_sr ?_
     refine t_st rfl (st_field rfl fld58_0) ?_
     refine t_st rfl (st_load 0 rfl one3 rfl rfl) ?_
     refine t_st rfl (st_field rfl fld77_1) ?_
     refine t_st rfl (st_load 1 rfl one3 rfl rfl) ?_
     obtain ⟨l2802, hcl2803, hm⟩ := bindS hm
     refine t_callG _ rfl call26 rfl (cLineOuts _ _ x2791.Kind x2761.end_ l2802 hcl2803) ?_
     rintro _ b2804 _ hle2805 ⟨A2806, c2807, rfl, rfl, h2808⟩
     refine t_st rfl (st_len rfl sl48) ?_
     refine t_mv rfl rfl ?_
     refine t_ne ?_
     refine c_block ?_
     have hb2810 : l2802.length ≤ 9223372036854775807 := (FZ.bd h2808)
     refine c_pullb 1 rfl ?_
     refine c_pullb 4 rfl ?_
     refine c_pullb 4 rfl ?_
     refine c_pullb 4 rfl ?_
     refine c_front2 [_, _, _, _, _] hs2788 hs2751 R rfl ?_
     obtain ⟨⟨l2923, l2924⟩, hl2926, hk2927⟩ := bindS hm
     refine c_forS (fun k2925 => unc2 fun l2923 l2924 => fun b2913 e' hp' => ∃ (hs2916 : Hp), ∃ (A2920 : Option Addr), ∃ (c2921 : Nat), ∃ (hs2919 : Hp), [(2, .pointer (some ⟨g1500, 0, none⟩)), (5, .pointer (some ⟨g1504, 0, none⟩)), (6, .pointer (some ⟨g1505, 0, none⟩)), (7, .func (.func 51) #[] #[.pointer (some ⟨g1500, 0, none⟩), .pointer (some ⟨g1504, 0, none⟩), .pointer (some ⟨g1505, 0, none⟩)]), (10, .pointer (some ⟨g2777, 0, none⟩)), (11, .pointer (some ⟨g2801, 0, none⟩)), (49, .slice A2806 (l2802).length c2807), (50, .int .i64 ((l2802.length : Int))), (51, .int .i64 ((k2925 : Int)))] = e' ∧ (g1500, Cl 28 [.slice A2 (s1.Stations).length c3, .slice A5 (s1.Sections).length c6, .slice A8 (s1.Links).length c9, .slice A11 (s1.Signals).length c12, .slice A14 (s1.Gates).length c15]) :: (g1504, Cl 86 [.map (some g1501)]) :: (g1505, Cl 118 [.slice A2920 (l2924).length c2921]) :: (g2777, Cl 77 [.int .i64 (x2761.section_), .int .i64 (x2761.end_)]) :: (g2801, Cl 58 [.int .i64 (x2791.Kind), .int .i64 (x2791.Length), .int .i64 (x2791.Grade), .int .i64 (x2791.Speed), .int .i64 (x2791.Slow), .int .i64 (x2791.Station), .bool (x2791.Axles)]) :: (hs2916 ++ (hs2919 ++ R)) = hp' ∧ b2804.Le b2913 ∧ OM rLineEnd (OT.fr (RT.int .i64)) true false b2913.w g1501 l2923 hs2916 ∧ OS 77 (OT.fr rLineEnd) b2913.w (.slice A2920 l2924.length c2921) l2924 hs2919) hl2926 (e' := [(2, .pointer (some ⟨g1500, 0, none⟩)), (5, .pointer (some ⟨g1504, 0, none⟩)), (6, .pointer (some ⟨g1505, 0, none⟩)), (7, .func (.func 51) #[] #[.pointer (some ⟨g1500, 0, none⟩), .pointer (some ⟨g1504, 0, none⟩), .pointer (some ⟨g1505, 0, none⟩)]), (10, .pointer (some ⟨g2777, 0, none⟩)), (11, .pointer (some ⟨g2801, 0, none⟩)), (49, .slice A2806 (l2802).length c2807), (50, .int .i64 ((l2802.length : Int))), (51, .int .i64 0)]) ⟨rfl, rfl, rfl, rfl, rfl, rfl, rfl, rfl, rfl, trivial⟩ (.refl _) ⟨hs2751, (subA A2755 c2756 j2780 2), (c2756 - j2780), hs2788, rfl, rfl, (Base.Le.refl _), (h2752.le hle2805), (h2790.le hle2805)⟩ ?_ ?_
     ·
      rintro k2925 ⟨l2923, l2924⟩ b2913 _ _ oL2809 hknL2809 ⟨hs2916, A2920, c2921, hs2919, rfl, rfl, hle2914, h2917, h2922⟩ hstepL2809
      unfold mLineDistances_L2809 at hstepL2809
      have hm := (unc2E hstepL2809)
      refine c_sr ?_
      refine t_st rfl (st_lss_t rfl rfl (by omega)) ?_
      refine t_ne ?_
      refine c_seq ?_
      refine c_cond_t rfl ?_
      refine c_skip ?_
      refine x_then_normal ?_
      refine c_seq ?_
      refine c_block ?_
      refine c_sr ?_
      obtain ⟨x2928, h2929, hm⟩ := bindS hm
      obtain ⟨j2930, hj2931, hx2932⟩ := idx_some h2929
      obtain ⟨cs2933, hr2934, hcs2935, hA2936, hlt2937⟩ := FZ.get (sz := 1) rfl (by decide) (h2808.le hle2914) hx2932
      obtain rfl := hr2934
      refine t_st rfl (st_index_old j2930 rfl rfl hj2931 hlt2937 hA2936 sl48) ?_
      refine t_st rfl (st_load_old rfl one3 (hcs2935 0 _ rfl)) ?_
      refine t_as rfl rfl ?_
      refine t_ne ?_
      obtain ⟨x2959, h2961, hm⟩ := bindS hm
      obtain ⟨_, h2962, hm⟩ := bindS hm
      obtain ⟨⟨l2963, l2964⟩, hcl2965, hm⟩ := bindS hm
      have hm := (unc2E hm)
      refine D_drawI mixed (.cons _ (.cons _ (.cons _ (.cons_cons _ (.cons_cons _ (sub_skip hs2916 (sub_skip hs2919 (.refl _)))))))) ?_
      refine E_st 0 rfl (st_move rfl) ?_
      refine E_st 1 rfl (st_field rfl fld77_0) ?_
      refine E_st 2 rfl (st_load 0 rfl one3 rfl rfl) ?_
      refine E_st 3 rfl (st_move rfl) ?_
      refine E_st 4 rfl (st_build (v := .agg #[.int .i64 (x2761.section_), .int .i64 (x2928)]) [(0, .int .i64 (x2761.section_)), (1, .int .i64 (x2928))] rfl (fun _ => by kernel_rfl)) ?_
      refine E_st 6 rfl (st_loadD (vs := [_, _]) 0 2 rfl agg77 rfl rfl rfl) ?_
      refine E_st 8 rfl (st_field rfl fld58_1) ?_
      refine E_st 9 rfl (st_load 1 rfl one3 rfl rfl) ?_
      refine E_out ?_
      refine D_all [5] (by kernel_rfl) rfl ?_
      refine R_do (Base.Le.refl _) rfl rfl (Stable.does (st_load 1 rfl one86 rfl rfl)) ?_ ?_
      ·
       rintro _ _ ⟨rfl, rfl⟩
       refine ⟨.inr (.cons _ (.cons _ (.cons _ (.cons_cons _ (.cons_cons _ (sub_skip hs2916 (sub_skip hs2919 (.refl _)))))))), ?_⟩
       have hx2960 := Option.some.inj h2961
       obtain ⟨v2956, hv2957, hr2958⟩ := OM.lookF kok77 (z0 := 0) h2917 (key := .agg #[.int .i64 (x2761.section_), .int .i64 (x2761.end_)]) (k := x2761) ⟨[.int .i64 (x2761.section_), .int .i64 (x2761.end_)], rfl, ⟨[.int .i64 (x2761.section_)], _, rfl, rfl, rfl⟩⟩ mapt86 zero3 rfl
       rw [hx2960] at hv2957
       obtain rfl : v2956 = .int .i64 (x2959) := by have hv2957 : [v2956] = [.int .i64 (x2959)] := hv2957; injection hv2957
       refine D_all [7] (by kernel_rfl) rfl ?_
       refine R_do (Base.Le.refl _) rfl rfl (Stable.does (st_mlook (ok := false) rfl rfl (fun w ho => hr2958 _ w ho (.cons _ (.cons _ (.cons _ (.cons _ (.cons _ (List.sublist_append_left _ _)))))) false))) ?_ ?_
       ·
        rintro _ _ ⟨rfl, rfl⟩
        refine ⟨.inr (.cons _ (.cons _ (.cons _ (.cons_cons _ (.cons_cons _ (sub_skip hs2916 (sub_skip hs2919 (.refl _)))))))), ?_⟩
        have h2962 := (chk_some h2962).2
        refine E_in (.cons _ (.cons _ (.cons _ (.cons_cons _ (.cons_cons _ (sub_skip hs2916 (sub_skip hs2919 (.refl _)))))))) ?_
        refine E_st 10 rfl (st_add rfl rfl h2962) ?_
        refine E_out ?_
        refine d_pullb 2 rfl ?_
        refine d_pullb 2 rfl ?_
        refine d_pullb 2 rfl ?_
        refine d_front2 [_, _, _, _, _] hs2916 hs2919 R rfl ?_
        refine d_front2 [_, _, _, _, _] hs2919 hs2916 R rfl ?_
        refine d_out2 [_, _, _] [_, _] hs2916 hs2919 R rfl ?_
        refine D_all [11] (by kernel_rfl) rfl ?_
        refine R_callvG (Base.Le.refl _) rfl rfl #[] #[.pointer (some ⟨g1500, 0, none⟩), .pointer (some ⟨g1504, 0, none⟩), .pointer (some ⟨g1505, 0, none⟩)] [.agg #[.int .i64 (x2761.section_), .int .i64 (x2928)], .int .i64 (x2959 + x2791.Length)] rfl call51 rfl (cLineDistances_1_2 _ _ (⟨x2761.section_, x2928⟩ : LineEnd) (x2959 + x2791.Length) s1.Stations s1.Sections s1.Links s1.Signals s1.Gates l2923 l2924 g1500 g1504 g1505 A2 c3 A5 c6 A8 c9 A11 c12 A14 c15 g1501 hs2916 A2920 c2921 hs2919 (h4.le (hle1588.trans (hle2749.trans (hle2805.trans hle2914)))) (h7.le (hle1588.trans (hle2749.trans (hle2805.trans hle2914)))) (h10.le (hle1588.trans (hle2749.trans (hle2805.trans hle2914)))) (h13.le (hle1588.trans (hle2749.trans (hle2805.trans hle2914)))) (h16.le (hle1588.trans (hle2749.trans (hle2805.trans hle2914)))) h2917 h2922 l2963 l2964 hcl2965) ?_ ?_
        ·
         rintro _ b2966 _ hle2967 ⟨hs2968, A2969, c2970, hs2971, rfl, rfl, h2972, h2973⟩
         refine ⟨.inr (.cons _ (.cons _ (.cons _ (sub_skip hs2968 (sub_skip hs2971 (.refl _)))))), ?_⟩
         refine d_in2 [_, _, _] [_, _] hs2968 hs2971 R rfl ?_
         refine D_done (by kernel_rfl) ?_
         refine x_block_normal ?_
         refine x_then_normal ?_
         refine c_region ?_
         refine t_st rfl (st_add rfl rfl (by omega)) ?_
         refine t_mv rfl rfl ?_
         refine t_nil ?_
         refine x_pullb 4 rfl ?_
         refine x_pullb 4 rfl ?_
         refine x_pullb 4 rfl ?_
         refine x_pullb 4 rfl ?_
         refine x_pullb 4 rfl ?_
         refine x_front2 [_, _, _, _, _] hs2968 hs2971 R rfl ?_
         refine x_front2 [_, _, _, _, _] hs2971 hs2968 R rfl ?_
         obtain rfl := some1 hm
         exact x_againS (e' := [(2, .pointer (some ⟨g1500, 0, none⟩)), (5, .pointer (some ⟨g1504, 0, none⟩)), (6, .pointer (some ⟨g1505, 0, none⟩)), (7, .func (.func 51) #[] #[.pointer (some ⟨g1500, 0, none⟩), .pointer (some ⟨g1504, 0, none⟩), .pointer (some ⟨g1505, 0, none⟩)]), (10, .pointer (some ⟨g2777, 0, none⟩)), (11, .pointer (some ⟨g2801, 0, none⟩)), (49, .slice A2806 (l2802).length c2807), (50, .int .i64 ((l2802.length : Int))), (51, .int .i64 ((k2925 : Int) + 1))]) ⟨rfl, rfl, rfl, rfl, rfl, rfl, rfl, rfl, rfl, trivial⟩ (.refl _) ⟨hs2968, A2969, c2970, hs2971, rfl, rfl, ((hle2914.trans hle2967)), h2972, h2973⟩
        exact R_nil
       exact R_nil
      exact R_nil
     ·
      rintro b2913 _ _ ⟨hs2916, A2920, c2921, hs2919, rfl, rfl, hle2914, h2917, h2922⟩
      have hm := (unc2E hk2927)
      refine c_sr ?_
      refine t_st rfl (st_lss_f rfl rfl (by omega)) ?_
      refine t_ne ?_
      refine c_seq ?_
      refine c_cond_f rfl ?_
      refine c_exit ?_
      refine x_then_exit ?_
      refine x_then_exit ?_
      refine x_block_out ?_
      refine x_block_normal ?_
      refine x_pullb 2 rfl ?_
      refine x_pullb 2 rfl ?_
      refine x_pullb 2 rfl ?_
      refine x_front2 [_, _, _, _, _] hs2916 hs2919 R rfl ?_
      refine x_front2 [_, _, _, _, _] hs2919 hs2916 R rfl ?_
      exact x_againM (l2923, l2924) (Option.some.inj hm).symm (e' := [(2, .pointer (some ⟨g1500, 0, none⟩)), (5, .pointer (some ⟨g1504, 0, none⟩)), (6, .pointer (some ⟨g1505, 0, none⟩)), (7, .func (.func 51) #[] #[.pointer (some ⟨g1500, 0, none⟩), .pointer (some ⟨g1504, 0, none⟩), .pointer (some ⟨g1505, 0, none⟩)])]) ⟨rfl, rfl, rfl, rfl, trivial⟩ (.cons_cons _ (.cons_cons _ (.cons_cons _ (.cons _ (.cons _ (.refl _)))))) ⟨hs2916, A2920, c2921, hs2919, rfl, rfl, ((hle2749.trans (hle2805.trans hle2914))), h2917, h2922⟩
    ·
     rw [if_neg (of_decide_eq_false hc2760)] at hm
     refine c_exit ?_
     refine x_then_exit ?_
     refine x_then_exit ?_
     refine x_block_out ?_
     have hm := congrArg some (houtL2309 _ (Option.some.inj hm).symm)
     obtain rfl := some1 hm
     refine x_pullb 1 rfl ?_
     exact x_join (e' := [(5, .pointer (some ⟨g1504, 0, none⟩))]) ⟨rfl, trivial⟩ (.cons_cons _ (.cons _ (.cons _ (sub_app hs2751 (sub_skip hs2754 (.refl _)))))) ⟨hs2751, rfl, rfl, hle2749, h2752⟩
   ·
    rintro b2302 _ _ ⟨hs2305, rfl, rfl, hle2303, h2306⟩
    have hm := hk2308
    refine c_sr ?_
    refine t_st rfl (st_load 0 rfl one86 rfl rfl) ?_
    refine t_as rfl rfl ?_
    refine t_ne ?_
    refine c_ret ?_
    obtain rfl := some1 hm
    exact retM (rs := [.tmp 4]) [.map (some g1501)] (hle1588.trans hle2303) (by decide) rfl ⟨rfl, trivial⟩ rfl (.cons _ (.refl _)) ⟨g1501, hs2305, rfl, rfl, h2306⟩

end Go.Proofs.YtcibjjhanafojaaDoor
