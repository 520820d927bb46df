/- Contracts: the code computes its model (part 5). -/
import Derived.Test.YtcibjjhanafojaaGreatDoorEP4
set_option linter.unusedVariables false
set_option linter.unusedSimpArgs false
namespace Go.Proofs.YtcibjjhanafojaaGreatDoor
open Go.RowKit Go.Fp

set_option maxRecDepth 20000 in
theorem cLineNeeds (b : Base) (R : Hp) (s1 : ApiNet) (s17 : ApiRoute) (A2 : Option Addr) (c3 : Nat) (A5 : Option Addr) (c6 : Nat) (A8 : Option Addr) (c9 : Nat) (A11 : Option Addr) (c12 : Nat) (A14 : Option Addr) (c15 : Nat) (A18 : Option Addr) (c19 : Nat) (h4 : FZ RT.str b.w A2 c3 s1.Stations) (h7 : FZ rApiSection b.w A5 c6 s1.Sections) (h10 : FZ rApiLink b.w A8 c9 s1.Links) (h13 : FZ rApiSignal b.w A11 c12 s1.Signals) (h16 : FZ rApiGate b.w A14 c15 s1.Gates) (h20 : FZ rApiStep b.w A18 c19 s17.Steps) (l483 : (List ApiNeed)) (hm : mLineNeeds s1 s17 = some l483) :
    CallsG Tryz.prog 16 [.agg #[.slice A2 (s1.Stations).length c3, .slice A5 (s1.Sections).length c6, .slice A8 (s1.Links).length c9, .slice A11 (s1.Signals).length c12, .slice A14 (s1.Gates).length c15], .agg #[.int .i64 (s17.From), .int .i64 (s17.To), .slice A18 (s17.Steps).length c19]] b (R) (fun v b' hp' => ∃ (A480 : Option Addr), ∃ (c481 : Nat), ∃ (hs479 : Hp), .slice A480 (l483).length c481 = v ∧ (hs479 ++ R) = hp' ∧ OS 42 (OT.fr rApiNeed) b'.w (.slice A480 l483.length c481) l483 hs479 ∧ (A480 = none ↔ l483 = [])) := by
  refine fn_enterG 74 Tryz.func16 rfl Tryz.ntmps16 rfl ?_
  unfold mLineNeeds at hm
  refine c_sr ?_
  refine t_do rfl (u_box _ rfl rfl) ?_
  rintro _ _ ⟨g485, rfl, rfl⟩
  refine t_do rfl (u_box _ rfl rfl) ?_
  rintro _ _ ⟨g486, rfl, rfl⟩
  refine t_as rfl rfl ?_
  refine t_ne ?_
  obtain ⟨⟨l523, l524⟩, hj525, hk525⟩ := bindS hm
  refine c_join (fun b511 e' hp' => ∃ (g522 : Nat), ∃ (A515 : Option Addr), ∃ (c516 : Nat), ∃ (hs514 : Hp), ∃ (g520 : Nat), ∃ (hs519 : Hp), [(2, .pointer (some ⟨g485, 0, none⟩)), (3, .pointer (some ⟨g486, 0, none⟩)), (5, .pointer (some ⟨g522, 0, none⟩))] = e' ∧ (g485, Cl 28 [.slice A2 (s1.Stations).length c3, .slice A5 (s1.Sections).length c6, .slice A8 (s1.Links).length c9, .slice A11 (s1.Signals).length c12, .slice A14 (s1.Gates).length c15]) :: (g486, Cl 54 [.int .i64 (s17.From), .int .i64 (s17.To), .slice A18 (s17.Steps).length c19]) :: (g522, Cl 86 [.slice A2 (s1.Stations).length c3, .slice A5 (s1.Sections).length c6, .slice A8 (s1.Links).length c9, .slice A11 (s1.Signals).length c12, .slice A14 (s1.Gates).length c15, .int .i64 (s17.From), .int .i64 (s17.To), .slice A18 (s17.Steps).length c19, .slice A515 (l523).length c516, .slice none 0 0, .map (some g520)]) :: (hs514 ++ (hs519 ++ R)) = hp' ∧ b.Le b511 ∧ OS 56 (OT.fr rApiStep) b511.w (.slice A515 l523.length c516) l523 hs514 ∧ OM rApiNeed (OT.fr RT.bool) true false b511.w g520 l524 hs519) ?_ ?_
  ·
   have hm := hj525
   obtain ⟨l538, hcl539, hm⟩ := bindS hm
   refine D_drawI mixed (.refl _) ?_
   refine E_st 0 rfl (st_loadD (vs := [_, _, _, _, _]) 1 5 rfl agg28 rfl rfl rfl) ?_
   refine E_st 1 rfl (st_loadD (vs := [_, _, _]) 0 3 rfl agg54 rfl rfl rfl) ?_
   refine E_st 2 rfl (st_loadD (vs := [_, _, _, _, _]) 1 5 rfl agg28 rfl rfl rfl) ?_
   refine E_st 3 rfl (st_loadD (vs := [_, _, _]) 0 3 rfl agg54 rfl rfl rfl) ?_
   refine E_out ?_
   refine D_all [4, 5] (by kernel_rfl) rfl ?_
   refine R_callGl (Base.Le.refl _) rfl rfl _ call34 rfl (cLineOverlap _ _ s1 s17 A2 c3 A5 c6 A8 c9 A11 c12 A14 c15 A18 c19 h4 h7 h10 h13 h16 h20 l538 hcl539) ?_ ?_
   ·
    rintro _ b540 _ hle541 ⟨A542, c543, hs544, rfl, rfl, h545⟩
    refine ⟨.inr (sub_skip hs544 (.refl _)), ?_⟩
    refine d_in1 [] [_, _] hs544 R rfl ?_
    refine D_all [5] (by kernel_rfl) rfl ?_
    refine R_do hle541 rfl rfl (u_mmap rApiNeed (OT.fr RT.bool) true false [_, _] (hs544 ++ R) rfl) ?_ ?_
    ·
     rintro _ _ ⟨g546, hs547, rfl, rfl, h548⟩
     refine ⟨.inr (.cons_cons _ (.cons_cons _ (sub_skip hs547 (sub_skip hs544 (.refl _))))), ?_⟩
     refine D_all [6] (by kernel_rfl) rfl ?_
     refine R_do hle541 rfl rfl (Stable.does (st_build (v := .agg #[.slice A2 (s1.Stations).length c3, .slice A5 (s1.Sections).length c6, .slice A8 (s1.Links).length c9, .slice A11 (s1.Signals).length c12, .slice A14 (s1.Gates).length c15, .int .i64 (s17.From), .int .i64 (s17.To), .slice A18 (s17.Steps).length c19, .slice A542 (l538).length c543, .slice none 0 0, .map (some g546)]) [(0, .agg #[.slice A2 (s1.Stations).length c3, .slice A5 (s1.Sections).length c6, .slice A8 (s1.Links).length c9, .slice A11 (s1.Signals).length c12, .slice A14 (s1.Gates).length c15]), (1, .agg #[.int .i64 (s17.From), .int .i64 (s17.To), .slice A18 (s17.Steps).length c19]), (2, .slice A542 (l538).length c543), (4, .map (some g546))] rfl (fun _ => by kernel_rfl))) ?_ ?_
     ·
      rintro _ _ ⟨rfl, rfl⟩
      refine ⟨.inr (.cons_cons _ (.cons_cons _ (sub_skip hs547 (sub_skip hs544 (.refl _))))), ?_⟩
      refine D_all [7] (by kernel_rfl) rfl ?_
      refine R_do hle541 rfl rfl (u_box _ rfl rfl) ?_ ?_
      ·
       rintro _ _ ⟨g549, rfl, rfl⟩
       refine ⟨.inr (.cons _ (.cons_cons _ (.cons_cons _ (sub_skip hs547 (sub_skip hs544 (.refl _)))))), ?_⟩
       refine D_st hle541 8 rfl (by kernel_rfl) (by kernel_rfl) (by kernel_rfl) rfl (st_assign rfl) (.cons _ (.cons_cons _ (.cons_cons _ (sub_skip hs547 (sub_skip hs544 (.refl _)))))) ?_
       refine D_done (by kernel_rfl) ?_
       obtain ⟨rfl, rfl⟩ := some2 hm
       refine x_pullb 1 rfl ?_
       refine x_pullb 2 rfl ?_
       refine x_front2 [_, _, _] hs547 hs544 R rfl ?_
       exact x_join (e' := [(2, .pointer (some ⟨g485, 0, none⟩)), (3, .pointer (some ⟨g486, 0, none⟩)), (5, .pointer (some ⟨g549, 0, none⟩))]) ⟨rfl, rfl, rfl, trivial⟩ (.refl _) ⟨g549, A542, c543, hs544, g546, hs547, rfl, rfl, hle541, h545, h548⟩
      exact R_nil
     exact R_nil
    exact R_nil
   refine R_do (Base.Le.refl _) rfl rfl (u_mmap rApiNeed (OT.fr RT.bool) true false [_, _] R rfl) ?_ ?_
   ·
    rintro _ _ ⟨g546, hs547, rfl, rfl, h548⟩
    refine ⟨.inr (.cons_cons _ (.cons_cons _ (sub_skip hs547 (.refl _)))), ?_⟩
    refine D_all [4] (by kernel_rfl) rfl ?_
    refine R_callGl (Base.Le.refl _) rfl rfl _ call34 rfl (cLineOverlap _ _ s1 s17 A2 c3 A5 c6 A8 c9 A11 c12 A14 c15 A18 c19 h4 h7 h10 h13 h16 h20 l538 hcl539) ?_ ?_
    ·
     rintro _ b540 _ hle541 ⟨A542, c543, hs544, rfl, rfl, h545⟩
     refine ⟨.inr (sub_skip hs544 (.cons_cons _ (.cons_cons _ (sub_skip hs547 (.refl _))))), ?_⟩
     refine d_in1 [] [_, _] hs544 (hs547 ++ R) rfl ?_
     refine D_all [6] (by kernel_rfl) rfl ?_
     refine R_do hle541 rfl rfl (Stable.does (st_build (v := .agg #[.slice A2 (s1.Stations).length c3, .slice A5 (s1.Sections).length c6, .slice A8 (s1.Links).length c9, .slice A11 (s1.Signals).length c12, .slice A14 (s1.Gates).length c15, .int .i64 (s17.From), .int .i64 (s17.To), .slice A18 (s17.Steps).length c19, .slice A542 (l538).length c543, .slice none 0 0, .map (some g546)]) [(0, .agg #[.slice A2 (s1.Stations).length c3, .slice A5 (s1.Sections).length c6, .slice A8 (s1.Links).length c9, .slice A11 (s1.Signals).length c12, .slice A14 (s1.Gates).length c15]), (1, .agg #[.int .i64 (s17.From), .int .i64 (s17.To), .slice A18 (s17.Steps).length c19]), (2, .slice A542 (l538).length c543), (4, .map (some g546))] rfl (fun _ => by kernel_rfl))) ?_ ?_
     ·
      rintro _ _ ⟨rfl, rfl⟩
      refine ⟨.inr (.cons_cons _ (.cons_cons _ (sub_skip hs544 (sub_skip hs547 (.refl _))))), ?_⟩
      refine D_all [7] (by kernel_rfl) rfl ?_
      refine R_do hle541 rfl rfl (u_box _ rfl rfl) ?_ ?_
      ·
       rintro _ _ ⟨g549, rfl, rfl⟩
       refine ⟨.inr (.cons _ (.cons_cons _ (.cons_cons _ (sub_skip hs544 (sub_skip hs547 (.refl _)))))), ?_⟩
       refine D_st hle541 8 rfl (by kernel_rfl) (by kernel_rfl) (by kernel_rfl) rfl (st_assign rfl) (.cons _ (.cons_cons _ (.cons_cons _ (sub_skip hs544 (sub_skip hs547 (.refl _)))))) ?_
       refine D_done (by kernel_rfl) ?_
       obtain ⟨rfl, rfl⟩ := some2 hm
       refine x_pullb 1 rfl ?_
       refine x_pullb 2 rfl ?_
       refine x_front2 [_, _, _] hs544 hs547 R rfl ?_
       refine x_front2 [_, _, _] hs547 hs544 R rfl ?_
       exact x_join (e' := [(2, .pointer (some ⟨g485, 0, none⟩)), (3, .pointer (some ⟨g486, 0, none⟩)), (5, .pointer (some ⟨g549, 0, none⟩))]) ⟨rfl, rfl, rfl, trivial⟩ (.refl _) ⟨g549, A542, c543, hs544, g546, hs547, rfl, rfl, hle541, h545, (h548.le hle541)⟩
      exact R_nil
     exact R_nil
    exact R_nil
   exact R_nil
  ·
   rintro b511 _ _ ⟨g522, A515, c516, hs514, g520, hs519, rfl, rfl, hle512, h517, h521⟩
   have hm := (unc2E hk525)
   refine c_seq ?_
   refine c_sr ?_
   refine t_st rfl (st_field rfl fld54_2) ?_
   refine t_st rfl (st_load 1 rfl one52 rfl rfl) ?_
   refine t_st rfl (st_len rfl sl52) ?_
   refine t_mv rfl rfl ?_
   refine t_ne ?_
   refine c_block ?_
   have hb551 : s17.Steps.length ≤ 9223372036854775807 := (FZ.bd (h20.le hle512))
   refine c_pullb 2 rfl ?_
   refine c_pullb 2 rfl ?_
   refine c_pullb 2 rfl ?_
   refine c_front2 [_, _, _] hs514 hs519 R rfl ?_
   refine c_front2 [_, _, _] hs519 hs514 R rfl ?_
   obtain ⟨⟨l651, l653⟩, hl655, hk656⟩ := bindS hm
   refine c_forS (fun k654 => unc2 fun l651 l653 => fun b641 e' hp' => ∃ (A645 : Option Addr), ∃ (c646 : Nat), ∃ (hs644 : Hp), ∃ (hs649 : Hp), [(2, .pointer (some ⟨g485, 0, none⟩)), (3, .pointer (some ⟨g486, 0, none⟩)), (5, .pointer (some ⟨g522, 0, none⟩)), (20, .slice A18 (s17.Steps).length c19), (21, .int .i64 ((s17.Steps.length : Int))), (22, .int .i64 ((k654 : Int)))] = e' ∧ (g485, Cl 28 [.slice A2 (s1.Stations).length c3, .slice A5 (s1.Sections).length c6, .slice A8 (s1.Links).length c9, .slice A11 (s1.Signals).length c12, .slice A14 (s1.Gates).length c15]) :: (g486, Cl 54 [.int .i64 (s17.From), .int .i64 (s17.To), .slice A18 (s17.Steps).length c19]) :: (g522, Cl 86 [.slice A2 (s1.Stations).length c3, .slice A5 (s1.Sections).length c6, .slice A8 (s1.Links).length c9, .slice A11 (s1.Signals).length c12, .slice A14 (s1.Gates).length c15, .int .i64 (s17.From), .int .i64 (s17.To), .slice A18 (s17.Steps).length c19, .slice A515 (l523).length c516, .slice A645 (l651).length c646, .map (some g520)]) :: (hs514 ++ (hs644 ++ (hs649 ++ R))) = hp' ∧ b511.Le b641 ∧ OS 42 (OT.fr rApiNeed) b641.w (.slice A645 l651.length c646) l651 hs644 ∧ (A645 = none ↔ l651 = []) ∧ OM rApiNeed (OT.fr RT.bool) true false b641.w g520 l653 hs649) hl655 (e' := [(2, .pointer (some ⟨g485, 0, none⟩)), (3, .pointer (some ⟨g486, 0, none⟩)), (5, .pointer (some ⟨g522, 0, none⟩)), (20, .slice A18 (s17.Steps).length c19), (21, .int .i64 ((s17.Steps.length : Int))), (22, .int .i64 0)]) ⟨rfl, rfl, rfl, rfl, rfl, rfl, trivial⟩ (.refl _) ⟨none, 0, [], hs519, rfl, rfl, (Base.Le.refl _), OS.nil, ⟨fun _ => rfl, fun _ => rfl⟩, h521⟩ ?_ ?_
   ·
    rintro k654 ⟨l651, l653⟩ b641 _ _ oL550 hknL550 ⟨A645, c646, hs644, hs649, rfl, rfl, hle642, h647, hnz652, h650⟩ hstepL550
    unfold mLineNeeds_L550 at hstepL550
    have hm := (unc2E hstepL550)
    refine c_sr ?_
    refine t_st rfl (st_lss_t rfl rfl (by omega)) ?_
    refine t_ne ?_
    refine c_seq ?_
    refine c_cond_t rfl ?_
    refine c_skip ?_
    refine x_then_normal ?_
    refine c_seq ?_
    refine c_block ?_
    refine c_sr ?_
    refine t_mv rfl rfl ?_
    obtain ⟨x657, h658, hm⟩ := bindS hm
    obtain ⟨j659, hj660, hx661⟩ := idx_some h658
    obtain ⟨cs662, hr663, hcs664, hA665, hlt666⟩ := FZ.get (sz := 3) rfl (by decide) (h20.le (hle512.trans hle642)) hx661
    obtain ⟨_, _, rfl, rfl, ⟨_, _, rfl, rfl, rfl⟩⟩ := hr663
    refine t_st rfl (st_index_old j659 rfl rfl hj660 hlt666 hA665 sl52) ?_
    refine t_st rfl (st_loadN_old (vs := [.int .i64 (x657.Section), .int .i64 (x657.In), .int .i64 (x657.Out)]) 3 rfl agg56 hA665 rfl (fun j u hu => hcs664 j u hu)) ?_
    refine t_do rfl (u_alloc [.int .i64 0, .int .i64 0, .int .i64 0] zero56 rfl) ?_
    rintro _ _ ⟨g667, rfl, rfl⟩
    refine t_as rfl rfl ?_
    refine t_do rfl (u_storeN (vs := [_, _, _]) 0 3 rfl rfl rfl siz56 rfl (mem_c rfl (mem_c rfl (mem_c rfl mem_n))) rfl (by simp)) ?_
    rintro _ _ rfl
    refine t_ne ?_
    obtain ⟨x682, hcl683, hm⟩ := bindS hm
    obtain ⟨⟨l684, l685⟩, hcl686, hm⟩ := bindS hm
    have hm := (unc2E hm)
    refine D_drawI mixed (.cons_cons _ (.cons_cons _ (.cons_cons _ (.cons _ (sub_skip hs514 (sub_skip hs644 (sub_skip hs649 (.refl _)))))))) ?_
    refine E_st 0 rfl (st_move rfl) ?_
    refine E_st 1 rfl (st_field rfl fld56_0) ?_
    refine E_st 2 rfl (st_load 0 rfl one3 rfl rfl) ?_
    refine E_st 3 rfl (st_loadD (vs := [_, _, _, _, _]) 1 5 rfl agg28 rfl rfl rfl) ?_
    refine E_st 4 rfl (st_loadD (vs := [_, _, _]) 0 3 rfl agg56 rfl rfl rfl) ?_
    refine E_st 6 rfl (st_move rfl) ?_
    refine E_out ?_
    refine D_all [5] (by kernel_rfl) rfl ?_
    refine R_do (Base.Le.refl _) rfl rfl (u_callW0 _ call36 rfl (fun w ho => cLinePosition _ [] s1 x657 A2 c3 A5 c6 A8 c9 A11 c12 A14 c15 ((h4.le (hle512.trans hle642)).old ho) ((h7.le (hle512.trans hle642)).old ho) ((h10.le (hle512.trans hle642)).old ho) ((h13.le (hle512.trans hle642)).old ho) ((h16.le (hle512.trans hle642)).old ho) x682 hcl683) (fun _ _ _ h => h.2.symm)) ?_ ?_
    ·
     rintro _ _ ⟨⟨_, rfl, _⟩, rfl⟩
     refine ⟨.inr (.cons_cons _ (.cons_cons _ (.cons_cons _ (.cons _ (sub_skip hs514 (sub_skip hs644 (sub_skip hs649 (.refl _)))))))), ?_⟩
     refine E_in (.cons_cons _ (.cons_cons _ (.cons_cons _ (.cons _ (sub_skip hs514 (sub_skip hs644 (sub_skip hs649 (.refl _)))))))) ?_
     refine E_st 7 rfl (st_build (v := .agg #[.int .i64 (1), .int .i64 (x657.Section), .int .i64 (x682), .int .i64 ((k654 : Int))]) [(0, .int .i64 (1)), (1, .int .i64 (x657.Section)), (2, .int .i64 (x682)), (3, .int .i64 ((k654 : Int)))] rfl (fun _ => by kernel_rfl)) ?_
     refine E_out ?_
     refine d_pullb 3 rfl ?_
     refine d_front3 [_, _, _, _] hs514 hs644 hs649 R rfl ?_
     refine d_front3 [_, _, _, _] hs649 hs514 hs644 R rfl ?_
     refine d_front3 [_, _, _, _] hs644 hs649 hs514 R rfl ?_
     refine d_out3 [_] [_, _, _] hs514 hs644 hs649 R rfl ?_
     refine D_all [8] (by kernel_rfl) rfl ?_
     refine R_callGl (Base.Le.refl _) rfl rfl _ call35 rfl (cLineLookerNeed _ _ (⟨1, x657.Section, x682, (k654 : Int)⟩ : ApiNeed) s1.Stations s1.Sections s1.Links s1.Signals s1.Gates s17.From s17.To s17.Steps l523 l651 l653 g522 A2 c3 A5 c6 A8 c9 A11 c12 A14 c15 A18 c19 A515 c516 hs514 A645 c646 hs644 g520 hs649 (h4.le (hle512.trans hle642)) (h7.le (hle512.trans hle642)) (h10.le (hle512.trans hle642)) (h13.le (hle512.trans hle642)) (h16.le (hle512.trans hle642)) (h20.le (hle512.trans hle642)) (h517.le hle642) h647 hnz652 h650 l684 l685 hcl686) ?_ ?_
     ·
      rintro _ b687 _ hle688 ⟨A689, c690, hs691, hs692, rfl, rfl, h693, h694, h695⟩
      refine ⟨.inr (.cons _ (sub_skip hs514 (sub_skip hs691 (sub_skip hs692 (.refl _))))), ?_⟩
      refine d_in3 [_] [_, _, _] hs514 hs691 hs692 R rfl ?_
      refine D_done (by kernel_rfl) ?_
      refine x_block_normal ?_
      refine x_then_normal ?_
      refine c_region ?_
      refine t_st rfl (st_add rfl rfl (by omega)) ?_
      refine t_mv rfl rfl ?_
      refine t_nil ?_
      refine x_pullb 3 rfl ?_
      refine x_pullb 3 rfl ?_
      refine x_front3 [_, _, _, _] hs514 hs691 hs692 R rfl ?_
      refine x_front3 [_, _, _, _] hs692 hs514 hs691 R rfl ?_
      refine x_front3 [_, _, _, _] hs691 hs692 hs514 R rfl ?_
      obtain rfl := some1 hm
      exact x_againS (e' := [(2, .pointer (some ⟨g485, 0, none⟩)), (3, .pointer (some ⟨g486, 0, none⟩)), (5, .pointer (some ⟨g522, 0, none⟩)), (20, .slice A18 (s17.Steps).length c19), (21, .int .i64 ((s17.Steps.length : Int))), (22, .int .i64 ((k654 : Int) + 1))]) ⟨rfl, rfl, rfl, rfl, rfl, rfl, trivial⟩ (.cons_cons _ (.cons_cons _ (.cons_cons _ (.cons _ (.refl _))))) ⟨A689, c690, hs691, hs692, rfl, rfl, ((hle642.trans hle688)), h693, h694, h695⟩
     exact R_nil
    exact R_nil
   ·
    rintro b641 _ _ ⟨A645, c646, hs644, hs649, rfl, rfl, hle642, h647, hnz652, h650⟩
    have hm := (unc2E hk656)
    refine c_sr ?_
    refine t_st rfl (st_lss_f rfl rfl (by omega)) ?_
    refine t_ne ?_
    refine c_seq ?_
    refine c_cond_f rfl ?_
    refine c_exit ?_
    refine x_then_exit ?_
    refine x_then_exit ?_
    refine x_block_out ?_
    refine x_then_normal ?_
    refine c_seq ?_
    refine c_sr ?_
    refine t_mv rfl rfl ?_
    refine t_st rfl (st_nil rfl) ?_
    refine t_st rfl (st_field rfl fld86_2) ?_
    refine t_st rfl (st_load 2 rfl one52 rfl rfl) ?_
    refine t_st rfl (st_len rfl sl52) ?_
    refine t_mv rfl rfl ?_
    refine t_ne ?_
    refine c_block ?_
    have hb697 : l523.length ≤ 9223372036854775807 := (OS.len h517)
    refine c_pullb 2 rfl ?_
    refine c_pullb 2 rfl ?_
    refine c_pullb 2 rfl ?_
    refine c_front3 [_, _, _] hs514 hs644 hs649 R rfl ?_
    refine c_front3 [_, _, _] hs649 hs514 hs644 R rfl ?_
    refine c_front3 [_, _, _] hs644 hs649 hs514 R rfl ?_
    obtain ⟨⟨l809, l811⟩, hl813, hk814⟩ := bindS hm
    refine c_forS (fun k812 => unc2 fun l809 l811 => fun b799 e' hp' => ∃ (A803 : Option Addr), ∃ (c804 : Nat), ∃ (hs802 : Hp), ∃ (hs807 : Hp), [(2, .pointer (some ⟨g485, 0, none⟩)), (3, .pointer (some ⟨g486, 0, none⟩)), (5, .pointer (some ⟨g522, 0, none⟩)), (40, .slice A515 (l523).length c516), (41, .int .i64 ((l523.length : Int))), (42, .int .i64 ((k812 : Int)))] = e' ∧ (g485, Cl 28 [.slice A2 (s1.Stations).length c3, .slice A5 (s1.Sections).length c6, .slice A8 (s1.Links).length c9, .slice A11 (s1.Signals).length c12, .slice A14 (s1.Gates).length c15]) :: (g486, Cl 54 [.int .i64 (s17.From), .int .i64 (s17.To), .slice A18 (s17.Steps).length c19]) :: (g522, Cl 86 [.slice A2 (s1.Stations).length c3, .slice A5 (s1.Sections).length c6, .slice A8 (s1.Links).length c9, .slice A11 (s1.Signals).length c12, .slice A14 (s1.Gates).length c15, .int .i64 (s17.From), .int .i64 (s17.To), .slice A18 (s17.Steps).length c19, .slice A515 (l523).length c516, .slice A803 (l809).length c804, .map (some g520)]) :: (hs514 ++ (hs802 ++ (hs807 ++ R))) = hp' ∧ b641.Le b799 ∧ OS 42 (OT.fr rApiNeed) b799.w (.slice A803 l809.length c804) l809 hs802 ∧ (A803 = none ↔ l809 = []) ∧ OM rApiNeed (OT.fr RT.bool) true false b799.w g520 l811 hs807) hl813 (e' := [(2, .pointer (some ⟨g485, 0, none⟩)), (3, .pointer (some ⟨g486, 0, none⟩)), (5, .pointer (some ⟨g522, 0, none⟩)), (40, .slice A515 (l523).length c516), (41, .int .i64 ((l523.length : Int))), (42, .int .i64 0)]) ⟨rfl, rfl, rfl, rfl, rfl, rfl, trivial⟩ (.refl _) ⟨A645, c646, hs644, hs649, rfl, rfl, (Base.Le.refl _), h647, hnz652, h650⟩ ?_ ?_
    ·
     rintro k812 ⟨l809, l811⟩ b799 _ _ oL696 hknL696 ⟨A803, c804, hs802, hs807, rfl, rfl, hle800, h805, hnz810, h808⟩ hstepL696
     unfold mLineNeeds_L696 at hstepL696
     have hm := (unc2E hstepL696)
     refine c_sr ?_
     refine t_st rfl (st_lss_t rfl rfl (by omega)) ?_
     refine t_ne ?_
     refine c_seq ?_
     refine c_cond_t rfl ?_
     refine c_skip ?_
     refine x_then_normal ?_
     refine c_seq ?_
     refine c_block ?_
     refine c_sr ?_
     obtain ⟨x815, h816, hm⟩ := bindS hm
     obtain ⟨j817, hj818, hx819⟩ := idx_some h816
     obtain ⟨cs820, hs825, P826, P827, hq828, hr821, hcs822, hA823, hlt824, hb829, hho830⟩ := OS.get (sz := 3) rfl (by decide) (h517.le (hle642.trans hle800)) hx819
     obtain ⟨⟨_, _, rfl, rfl, ⟨_, _, rfl, rfl, rfl⟩⟩, rfl⟩ := hr821
     refine t_st rfl (st_index_old j817 rfl rfl hj818 hlt824 hA823 sl52) ?_
     refine t_st rfl (st_loadN_rd (vs := [.int .i64 (x815.Section), .int .i64 (x815.In), .int .i64 (x815.Out)]) 3 rfl agg56 hA823 rfl (fun w ho j u hu => hcs822 w _ ho (.cons _ (.cons _ (.cons _ (List.sublist_append_left _ _)))) j u hu)) ?_
     refine t_do rfl (u_alloc [.int .i64 0, .int .i64 0, .int .i64 0] zero56 rfl) ?_
     rintro _ _ ⟨g831, rfl, rfl⟩
     refine t_do rfl (u_storeN (vs := [_, _, _]) 0 3 rfl rfl rfl siz56 rfl (mem_c rfl (mem_c rfl (mem_c rfl mem_n))) rfl (by simp)) ?_
     rintro _ _ rfl
     refine t_ne ?_
     obtain ⟨x846, hcl847, hm⟩ := bindS hm
     obtain ⟨⟨l848, l849⟩, hcl850, hm⟩ := bindS hm
     have hm := (unc2E hm)
     refine D_drawI mixed (.cons_cons _ (.cons_cons _ (.cons_cons _ (.cons _ (sub_skip hs514 (sub_skip hs802 (sub_skip hs807 (.refl _)))))))) ?_
     refine E_st 0 rfl (st_move rfl) ?_
     refine E_st 1 rfl (st_field rfl fld56_0) ?_
     refine E_st 2 rfl (st_load 0 rfl one3 rfl rfl) ?_
     refine E_st 3 rfl (st_loadD (vs := [_, _, _, _, _]) 1 5 rfl agg28 rfl rfl rfl) ?_
     refine E_st 4 rfl (st_loadD (vs := [_, _, _]) 0 3 rfl agg56 rfl rfl rfl) ?_
     refine E_out ?_
     refine D_all [5] (by kernel_rfl) rfl ?_
     refine R_do (Base.Le.refl _) rfl rfl (u_callW0 _ call36 rfl (fun w ho => cLinePosition _ [] s1 x815 A2 c3 A5 c6 A8 c9 A11 c12 A14 c15 ((h4.le (hle512.trans (hle642.trans hle800))).old ho) ((h7.le (hle512.trans (hle642.trans hle800))).old ho) ((h10.le (hle512.trans (hle642.trans hle800))).old ho) ((h13.le (hle512.trans (hle642.trans hle800))).old ho) ((h16.le (hle512.trans (hle642.trans hle800))).old ho) x846 hcl847) (fun _ _ _ h => h.2.symm)) ?_ ?_
     ·
      rintro _ _ ⟨⟨_, rfl, _⟩, rfl⟩
      refine ⟨.inr (.cons_cons _ (.cons_cons _ (.cons_cons _ (.cons _ (sub_skip hs514 (sub_skip hs802 (sub_skip hs807 (.refl _)))))))), ?_⟩
      refine E_in (.cons_cons _ (.cons_cons _ (.cons_cons _ (.cons _ (sub_skip hs514 (sub_skip hs802 (sub_skip hs807 (.refl _)))))))) ?_
      refine E_st 6 rfl (st_build (v := .agg #[.int .i64 (2), .int .i64 (x815.Section), .int .i64 (x846), .int .i64 ((-1))]) [(0, .int .i64 (2)), (1, .int .i64 (x815.Section)), (2, .int .i64 (x846)), (3, .int .i64 ((-1)))] rfl (fun _ => by kernel_rfl)) ?_
      refine E_out ?_
      refine d_pullb 3 rfl ?_
      refine d_front3 [_, _, _, _] hs514 hs802 hs807 R rfl ?_
      refine d_front3 [_, _, _, _] hs807 hs514 hs802 R rfl ?_
      refine d_front3 [_, _, _, _] hs802 hs807 hs514 R rfl ?_
      refine d_out3 [_] [_, _, _] hs514 hs802 hs807 R rfl ?_
      refine D_all [7] (by kernel_rfl) rfl ?_
      refine R_callGl (Base.Le.refl _) rfl rfl _ call35 rfl (cLineLookerNeed _ _ (⟨2, x815.Section, x846, (-1)⟩ : ApiNeed) s1.Stations s1.Sections s1.Links s1.Signals s1.Gates s17.From s17.To s17.Steps l523 l809 l811 g522 A2 c3 A5 c6 A8 c9 A11 c12 A14 c15 A18 c19 A515 c516 hs514 A803 c804 hs802 g520 hs807 (h4.le (hle512.trans (hle642.trans hle800))) (h7.le (hle512.trans (hle642.trans hle800))) (h10.le (hle512.trans (hle642.trans hle800))) (h13.le (hle512.trans (hle642.trans hle800))) (h16.le (hle512.trans (hle642.trans hle800))) (h20.le (hle512.trans (hle642.trans hle800))) (h517.le (hle642.trans hle800)) h805 hnz810 h808 l848 l849 hcl850) ?_ ?_
      ·
       rintro _ b851 _ hle852 ⟨A853, c854, hs855, hs856, rfl, rfl, h857, h858, h859⟩
       refine ⟨.inr (.cons _ (sub_skip hs514 (sub_skip hs855 (sub_skip hs856 (.refl _))))), ?_⟩
       refine d_in3 [_] [_, _, _] hs514 hs855 hs856 R rfl ?_
       refine D_done (by kernel_rfl) ?_
       refine x_block_normal ?_
       refine x_then_normal ?_
       refine c_region ?_
       refine t_st rfl (st_add rfl rfl (by omega)) ?_
       refine t_mv rfl rfl ?_
       refine t_nil ?_
       refine x_pullb 3 rfl ?_
       refine x_pullb 3 rfl ?_
       refine x_front3 [_, _, _, _] hs514 hs855 hs856 R rfl ?_
       refine x_front3 [_, _, _, _] hs856 hs514 hs855 R rfl ?_
       refine x_front3 [_, _, _, _] hs855 hs856 hs514 R rfl ?_
       obtain rfl := some1 hm
       exact x_againS (e' := [(2, .pointer (some ⟨g485, 0, none⟩)), (3, .pointer (some ⟨g486, 0, none⟩)), (5, .pointer (some ⟨g522, 0, none⟩)), (40, .slice A515 (l523).length c516), (41, .int .i64 ((l523.length : Int))), (42, .int .i64 ((k812 : Int) + 1))]) ⟨rfl, rfl, rfl, rfl, rfl, rfl, trivial⟩ (.cons_cons _ (.cons_cons _ (.cons_cons _ (.cons _ (.refl _))))) ⟨A853, c854, hs855, hs856, rfl, rfl, ((hle800.trans hle852)), h857, h858, h859⟩
      exact R_nil
     exact R_nil
    ·
     rintro b799 _ _ ⟨A803, c804, hs802, hs807, rfl, rfl, hle800, h805, hnz810, h808⟩
     have hm := (unc2E hk814)
     refine c_sr ?_
     refine t_st rfl (st_lss_f rfl rfl (by omega)) ?_
     refine t_ne ?_
     refine c_seq ?_
     refine c_cond_f rfl ?_
     refine c_exit ?_
     refine x_then_exit ?_
     refine x_then_exit ?_
     refine x_block_out ?_
     refine x_then_normal ?_
     refine c_seq ?_
     refine c_sr ?_
     refine t_st rfl (st_field rfl fld54_2) ?_
     refine t_st rfl (st_load 1 rfl one52 rfl rfl) ?_
     refine t_st rfl (st_len rfl sl52) ?_
     refine t_mv rfl rfl ?_
     refine t_ne ?_
     refine c_block ?_
     have hb861 : s17.Steps.length ≤ 9223372036854775807 := (FZ.bd (h20.le (hle512.trans (hle642.trans hle800))))
     refine c_pullb 2 rfl ?_
     refine c_pullb 2 rfl ?_
     refine c_front3 [_, _, _] hs514 hs802 hs807 R rfl ?_
     refine c_front3 [_, _, _] hs807 hs514 hs802 R rfl ?_
     refine c_front3 [_, _, _] hs802 hs807 hs514 R rfl ?_
     obtain ⟨⟨l911, l913⟩, hl915, hk916⟩ := bindS hm
     refine c_forS (fun k914 => unc2 fun l911 l913 => fun b900 e' hp' => ∃ (A904 : Option Addr), ∃ (c905 : Nat), ∃ (hs903 : Hp), ∃ (g909 : Nat), ∃ (hs908 : Hp), [(3, .pointer (some ⟨g486, 0, none⟩)), (5, .pointer (some ⟨g522, 0, none⟩)), (57, .int .i64 ((s17.Steps.length : Int))), (58, .int .i64 ((k914 : Int)))] = e' ∧ (g486, Cl 54 [.int .i64 (s17.From), .int .i64 (s17.To), .slice A18 (s17.Steps).length c19]) :: (g522, Cl 86 [.slice A2 (s1.Stations).length c3, .slice A5 (s1.Sections).length c6, .slice A8 (s1.Links).length c9, .slice A11 (s1.Signals).length c12, .slice A14 (s1.Gates).length c15, .int .i64 (s17.From), .int .i64 (s17.To), .slice A18 (s17.Steps).length c19, .slice A515 (l523).length c516, .slice A904 (l911).length c905, .map (some g909)]) :: (hs514 ++ (hs903 ++ (hs908 ++ R))) = hp' ∧ b799.Le b900 ∧ OS 42 (OT.fr rApiNeed) b900.w (.slice A904 l911.length c905) l911 hs903 ∧ (A904 = none ↔ l911 = []) ∧ OM rApiNeed (OT.fr RT.bool) true false b900.w g909 l913 hs908) hl915 (e' := [(3, .pointer (some ⟨g486, 0, none⟩)), (5, .pointer (some ⟨g522, 0, none⟩)), (57, .int .i64 ((s17.Steps.length : Int))), (58, .int .i64 0)]) ⟨rfl, rfl, rfl, rfl, trivial⟩ (.cons_cons _ (.cons_cons _ (.cons _ (.refl _)))) ⟨A803, c804, hs802, g520, hs807, rfl, rfl, (Base.Le.refl _), h805, hnz810, h808⟩ ?_ ?_
     ·
      rintro k914 ⟨l911, l913⟩ b900 _ _ oL860 hknL860 ⟨A904, c905, hs903, g909, hs908, rfl, rfl, hle901, h906, hnz912, h910⟩ hstepL860
      unfold mLineNeeds_L860 at hstepL860
      have hm := (unc2E hstepL860)
      refine c_sr ?_
      refine t_st rfl (st_lss_t rfl rfl (by omega)) ?_
      refine t_ne ?_
      refine c_seq ?_
      refine c_cond_t rfl ?_
      refine c_skip ?_
      refine x_then_normal ?_
      refine c_seq ?_
      refine c_block ?_
      refine c_sr ?_
      refine t_mv rfl rfl ?_
      refine t_as rfl rfl ?_
      refine t_ne ?_
      refine c_region ?_
      refine t_mv rfl rfl ?_
      refine t_mv rfl rfl ?_
      obtain ⟨⟨l917, l918⟩, hcl919, hm⟩ := bindS hm
      have hm := (unc2E hm)
      refine t_pullb 1 rfl ?_
      refine t_front3 [_, _] hs514 hs903 hs908 R rfl ?_
      refine t_front3 [_, _] hs908 hs514 hs903 R rfl ?_
      refine t_front3 [_, _] hs903 hs908 hs514 R rfl ?_
      refine t_out3 [_] [_] hs514 hs903 hs908 R rfl ?_
      refine t_callG _ rfl call37 rfl (cLineLookerLook _ _ (k914 : Int) s1.Stations s1.Sections s1.Links s1.Signals s1.Gates s17.From s17.To s17.Steps l523 l911 l913 g522 A2 c3 A5 c6 A8 c9 A11 c12 A14 c15 A18 c19 A515 c516 hs514 A904 c905 hs903 g909 hs908 (h4.le (hle512.trans (hle642.trans (hle800.trans hle901)))) (h7.le (hle512.trans (hle642.trans (hle800.trans hle901)))) (h10.le (hle512.trans (hle642.trans (hle800.trans hle901)))) (h13.le (hle512.trans (hle642.trans (hle800.trans hle901)))) (h16.le (hle512.trans (hle642.trans (hle800.trans hle901)))) (h20.le (hle512.trans (hle642.trans (hle800.trans hle901)))) (h517.le (hle642.trans (hle800.trans hle901))) h906 hnz912 h910 l917 l918 hcl919) ?_
      rintro _ b920 _ hle921 ⟨A922, c923, hs924, g925, hs926, rfl, rfl, h927, h928, h929⟩
      refine t_in3 [_] [_] hs514 hs924 hs926 R rfl ?_
      refine t_nil ?_
      refine x_block_normal ?_
      refine x_then_normal ?_
      refine c_region ?_
      refine t_st rfl (st_add rfl rfl (by omega)) ?_
      refine t_mv rfl rfl ?_
      refine t_nil ?_
      refine x_pullb 1 rfl ?_
      refine x_front3 [_, _] hs514 hs924 hs926 R rfl ?_
      refine x_front3 [_, _] hs926 hs514 hs924 R rfl ?_
      refine x_front3 [_, _] hs924 hs926 hs514 R rfl ?_
      obtain rfl := some1 hm
      exact x_againS (e' := [(3, .pointer (some ⟨g486, 0, none⟩)), (5, .pointer (some ⟨g522, 0, none⟩)), (57, .int .i64 ((s17.Steps.length : Int))), (58, .int .i64 ((k914 : Int) + 1))]) ⟨rfl, rfl, rfl, rfl, trivial⟩ (.refl _) ⟨A922, c923, hs924, g925, hs926, rfl, rfl, ((hle901.trans hle921)), h927, h928, h929⟩
     ·
      rintro b900 _ _ ⟨A904, c905, hs903, g909, hs908, rfl, rfl, hle901, h906, hnz912, h910⟩
      have hm := (unc2E hk916)
      refine c_sr ?_
      refine t_st rfl (st_lss_f rfl rfl (by omega)) ?_
      refine t_ne ?_
      refine c_seq ?_
      refine c_cond_f rfl ?_
      refine c_exit ?_
      refine x_then_exit ?_
      refine x_then_exit ?_
      refine x_block_out ?_
      refine x_then_normal ?_
      refine c_sr ?_
      refine t_mv rfl rfl ?_
      refine t_st rfl (st_field rfl fld54_0) ?_
      refine t_st rfl (st_load 0 rfl one3 rfl rfl) ?_
      refine t_st rfl (st_build (v := .agg #[.int .i64 (5), .int .i64 (s17.From), .int .i64 (0), .int .i64 ((-1))]) [(0, .int .i64 (5)), (1, .int .i64 (s17.From)), (3, .int .i64 ((-1)))] rfl (fun _ => by kernel_rfl)) ?_
      obtain ⟨⟨l930, l931⟩, hcl932, hm⟩ := bindS hm
      have hm := (unc2E hm)
      refine t_pullb 1 rfl ?_
      refine t_front3 [_, _] hs514 hs903 hs908 R rfl ?_
      refine t_front3 [_, _] hs908 hs514 hs903 R rfl ?_
      refine t_front3 [_, _] hs903 hs908 hs514 R rfl ?_
      refine t_out3 [_] [_] hs514 hs903 hs908 R rfl ?_
      refine t_callG _ rfl call35 rfl (cLineLookerNeed _ _ (⟨5, s17.From, 0, (-1)⟩ : ApiNeed) s1.Stations s1.Sections s1.Links s1.Signals s1.Gates s17.From s17.To s17.Steps l523 l911 l913 g522 A2 c3 A5 c6 A8 c9 A11 c12 A14 c15 A18 c19 A515 c516 hs514 A904 c905 hs903 g909 hs908 (h4.le (hle512.trans (hle642.trans (hle800.trans hle901)))) (h7.le (hle512.trans (hle642.trans (hle800.trans hle901)))) (h10.le (hle512.trans (hle642.trans (hle800.trans hle901)))) (h13.le (hle512.trans (hle642.trans (hle800.trans hle901)))) (h16.le (hle512.trans (hle642.trans (hle800.trans hle901)))) (h20.le (hle512.trans (hle642.trans (hle800.trans hle901)))) (h517.le (hle642.trans (hle800.trans hle901))) h906 hnz912 h910 l930 l931 hcl932) ?_
      rintro _ b933 _ hle934 ⟨A935, c936, hs937, hs938, rfl, rfl, h939, h940, h941⟩
      refine t_in3 [_] [_] hs514 hs937 hs938 R rfl ?_
      refine t_ne ?_
      refine c_sr ?_
      refine t_mv rfl rfl ?_
      refine t_st rfl (st_nil rfl) ?_
      refine t_st rfl (st_field rfl fld86_3) ?_
      refine t_st rfl (st_load 0 rfl one38 rfl rfl) ?_
      refine t_as rfl rfl ?_
      refine t_ne ?_
      refine c_ret ?_
      obtain rfl := some1 hm
      refine x_front2 [_, _] hs514 hs937 (hs938 ++ R) rfl ?_
      exact retM (rs := [.tmp 4]) [.slice A935 (l930).length c936] (hle512.trans (hle642.trans (hle800.trans (hle901.trans hle934)))) (by decide) rfl ⟨rfl, trivial⟩ rfl (.cons _ (.cons _ (sub_app hs937 (sub_skip hs514 (sub_skip hs938 (.refl _)))))) ⟨A935, c936, hs937, rfl, rfl, h939, h940⟩

set_option maxRecDepth 20000 in
theorem cLineOpen (b : Base) (R : Hp) (s1 : ApiNet) (x17 : Int) (l21 : (List ApiRoute)) (A2 : Option Addr) (c3 : Nat) (A5 : Option Addr) (c6 : Nat) (A8 : Option Addr) (c9 : Nat) (A11 : Option Addr) (c12 : Nat) (A14 : Option Addr) (c15 : Nat) (A18 : Option Addr) (c19 : Nat) (h4 : FZ RT.str b.w A2 c3 s1.Stations) (h7 : FZ rApiSection b.w A5 c6 s1.Sections) (h10 : FZ rApiLink b.w A8 c9 s1.Links) (h13 : FZ rApiSignal b.w A11 c12 s1.Signals) (h16 : FZ rApiGate b.w A14 c15 s1.Gates) (h20 : FZ rApiRoute b.w A18 c19 l21) (l210 : (List ByteArray)) (l214 : (List ApiSection)) (l218 : (List ApiLink)) (l222 : (List ApiSignal)) (l226 : (List ApiGate)) (x227 : Int) (l231 : (List ApiRoute)) (l232 : (List (List ApiNeed))) (hm : mLineOpen s1 x17 l21 = some (l210, l214, l218, l222, l226, x227, l231, l232)) :
    CallsG Tryz.prog 20 [.agg #[.slice A2 (s1.Stations).length c3, .slice A5 (s1.Sections).length c6, .slice A8 (s1.Links).length c9, .slice A11 (s1.Signals).length c12, .slice A14 (s1.Gates).length c15], .int .i64 (x17), .slice A18 (l21).length c19] b (R) (fun v b' hp' => ∃ (g206 : Nat), ∃ (A207 : Option Addr), ∃ (c208 : Nat), ∃ (A211 : Option Addr), ∃ (c212 : Nat), ∃ (A215 : Option Addr), ∃ (c216 : Nat), ∃ (A219 : Option Addr), ∃ (c220 : Nat), ∃ (A223 : Option Addr), ∃ (c224 : Nat), ∃ (A228 : Option Addr), ∃ (c229 : Nat), ∃ (A203 : Option Addr), ∃ (c204 : Nat), ∃ (hs202 : Hp), .pointer (some ⟨g206, 0, none⟩) = v ∧ (g206, Cl 94 [.slice A207 (l210).length c208, .slice A211 (l214).length c212, .slice A215 (l218).length c216, .slice A219 (l222).length c220, .slice A223 (l226).length c224, .int .i64 (x227), .slice A228 (l231).length c229, .slice A203 (l232).length c204]) :: (hs202 ++ R) = hp' ∧ FZ RT.str b'.w A207 c208 l210 ∧ FZ rApiSection b'.w A211 c212 l214 ∧ FZ rApiLink b'.w A215 c216 l218 ∧ FZ rApiSignal b'.w A219 c220 l222 ∧ FZ rApiGate b'.w A223 c224 l226 ∧ FZ rApiRoute b'.w A228 c229 l231 ∧ OS 38 (OT.fr (RT.list rApiNeed)) b'.w (.slice A203 l232.length c204) l232 hs202) := by
  refine fn_enterG 35 Tryz.func20 rfl Tryz.ntmps20 rfl ?_
  unfold mLineOpen at hm
  refine c_sr ?_
  refine t_do rfl (u_box _ rfl rfl) ?_
  rintro _ _ ⟨g233, rfl, rfl⟩
  refine t_as rfl rfl ?_
  refine t_ne ?_
  refine c_sr ?_
  refine t_st rfl (st_loadD (vs := [_, _, _, _, _]) 0 5 rfl agg28 rfl rfl rfl) ?_
  refine t_mv rfl rfl ?_
  refine t_mv rfl rfl ?_
  refine t_st rfl (st_build (v := .agg #[.slice A2 (s1.Stations).length c3, .slice A5 (s1.Sections).length c6, .slice A8 (s1.Links).length c9, .slice A11 (s1.Signals).length c12, .slice A14 (s1.Gates).length c15, .int .i64 (x17), .slice A18 (l21).length c19, .slice none 0 0]) [(0, .agg #[.slice A2 (s1.Stations).length c3, .slice A5 (s1.Sections).length c6, .slice A8 (s1.Links).length c9, .slice A11 (s1.Signals).length c12, .slice A14 (s1.Gates).length c15]), (1, .int .i64 (x17)), (2, .slice A18 (l21).length c19)] rfl (fun _ => by kernel_rfl)) ?_
  refine t_do rfl (u_box _ rfl rfl) ?_
  rintro _ _ ⟨g234, rfl, rfl⟩
  refine t_as rfl rfl ?_
  refine t_ne ?_
  refine c_seq ?_
  refine c_sr ?_
  refine t_mv rfl rfl ?_
  refine t_st rfl (st_len rfl sl47) ?_
  refine t_mv rfl rfl ?_
  refine t_ne ?_
  refine c_block ?_
  have hb236 : l21.length ≤ 9223372036854775807 := (FZ.bd h20)
  refine c_pullb 1 rfl ?_
  obtain ⟨l356, hl358, hk359⟩ := bindS hm
  refine c_forS (fun k357 => fun l356 => fun b349 e' hp' => ∃ (A353 : Option Addr), ∃ (c354 : Nat), ∃ (hs352 : Hp), [(3, .pointer (some ⟨g233, 0, none⟩)), (7, .pointer (some ⟨g234, 0, none⟩)), (15, .slice A18 (l21).length c19), (16, .int .i64 ((l21.length : Int))), (17, .int .i64 ((k357 : Int)))] = e' ∧ (g233, Cl 28 [.slice A2 (s1.Stations).length c3, .slice A5 (s1.Sections).length c6, .slice A8 (s1.Links).length c9, .slice A11 (s1.Signals).length c12, .slice A14 (s1.Gates).length c15]) :: (g234, Cl 94 [.slice A2 (s1.Stations).length c3, .slice A5 (s1.Sections).length c6, .slice A8 (s1.Links).length c9, .slice A11 (s1.Signals).length c12, .slice A14 (s1.Gates).length c15, .int .i64 (x17), .slice A18 (l21).length c19, .slice A353 (l356).length c354]) :: (hs352 ++ R) = hp' ∧ b.Le b349 ∧ OS 38 (OT.fr (RT.list rApiNeed)) b349.w (.slice A353 l356.length c354) l356 hs352) hl358 (e' := [(3, .pointer (some ⟨g233, 0, none⟩)), (7, .pointer (some ⟨g234, 0, none⟩)), (15, .slice A18 (l21).length c19), (16, .int .i64 ((l21.length : Int))), (17, .int .i64 0)]) ⟨rfl, rfl, rfl, rfl, rfl, trivial⟩ (.refl _) ⟨none, 0, [], rfl, rfl, (Base.Le.refl _), OS.nil⟩ ?_ ?_
  ·
   rintro k357 l356 b349 _ _ oL235 hknL235 ⟨A353, c354, hs352, rfl, rfl, hle350, h355⟩ hstepL235
   unfold mLineOpen_L235 at hstepL235
   have hm := hstepL235
   refine c_sr ?_
   refine t_st rfl (st_lss_t rfl rfl (by omega)) ?_
   refine t_ne ?_
   refine c_seq ?_
   refine c_cond_t rfl ?_
   refine c_skip ?_
   refine x_then_normal ?_
   refine c_seq ?_
   refine c_block ?_
   refine c_sr ?_
   obtain ⟨x360, h361, hm⟩ := bindS hm
   obtain ⟨j362, hj363, hx364⟩ := idx_some h361
   obtain ⟨cs365, hr366, hcs367, hA368, hlt369⟩ := FZ.get (sz := 3) rfl (by decide) (h20.le hle350) hx364
   obtain ⟨_, _, rfl, rfl, ⟨_, _, rfl, rfl, ⟨A370, c371, rfl, h372⟩⟩⟩ := hr366
   refine t_st rfl (st_index_old j362 rfl rfl hj363 hlt369 hA368 sl47) ?_
   refine t_st rfl (st_loadN_old (vs := [.int .i64 (x360.From), .int .i64 (x360.To), .slice A370 (x360.Steps).length c371]) 3 rfl agg54 hA368 rfl (fun j u hu => hcs367 j u hu)) ?_
   refine t_do rfl (u_alloc [.int .i64 0, .int .i64 0, .slice none 0 0] zero54 rfl) ?_
   rintro _ _ ⟨g373, rfl, rfl⟩
   refine t_do rfl (u_storeN (vs := [_, _, _]) 0 3 rfl rfl rfl siz54 rfl (mem_c rfl (mem_c rfl (mem_c rfl mem_n))) rfl (by simp)) ?_
   rintro _ _ rfl
   refine t_ne ?_
   obtain ⟨l393, hcl394, hm⟩ := bindS hm
   obtain ⟨_, h407, hm⟩ := bindS hm
   refine D_drawI mixed (.cons_cons _ (.cons_cons _ (.cons _ (sub_skip hs352 (.refl _))))) ?_
   refine E_st 0 rfl (st_move rfl) ?_
   refine E_st 1 rfl (st_move rfl) ?_
   refine E_st 2 rfl (st_nil rfl) ?_
   refine E_st 3 rfl (st_field rfl fld94_3) ?_
   refine E_st 5 rfl (st_loadD (vs := [_, _, _, _, _]) 1 5 rfl agg28 rfl rfl rfl) ?_
   refine E_st 6 rfl (st_loadD (vs := [_, _, _]) 0 3 rfl agg54 rfl rfl rfl) ?_
   refine E_out ?_
   refine D_all [4, 7] (by kernel_rfl) rfl ?_
   refine R_do (Base.Le.refl _) rfl rfl (Stable.does (st_load 2 rfl one92 rfl rfl)) ?_ ?_
   ·
    rintro _ _ ⟨rfl, rfl⟩
    refine ⟨.inr (.cons_cons _ (.cons_cons _ (.cons _ (sub_skip hs352 (.refl _))))), ?_⟩
    refine D_all [7] (by kernel_rfl) rfl ?_
    refine R_callGl (Base.Le.refl _) rfl rfl _ call16 rfl (cLineNeeds _ _ s1 x360 A2 c3 A5 c6 A8 c9 A11 c12 A14 c15 A370 c371 (h4.le hle350) (h7.le hle350) (h10.le hle350) (h13.le hle350) (h16.le hle350) h372 l393 hcl394) ?_ ?_
    ·
     rintro _ b395 _ hle396 ⟨A397, c398, hs399, rfl, rfl, h400, h401⟩
     refine ⟨.inr (sub_skip hs399 (.cons_cons _ (.cons_cons _ (.cons _ (sub_skip hs352 (.refl _)))))), ?_⟩
     refine d_in1 [] [_, _, _] hs399 (hs352 ++ R) rfl ?_
     refine D_all [8] (by kernel_rfl) rfl ?_
     refine R_do hle396 rfl rfl (u_bslice (el := 38) [(0, .slice A397 (l393).length c398)] [.slice A397 (l393).length c398] rfl (fun _ => by kernel_rfl)) ?_ ?_
     ·
      rintro _ _ ⟨g402, rfl, rfl⟩
      refine ⟨.inr (.cons _ (.cons_cons _ (.cons_cons _ (.cons _ (sub_skip hs399 (sub_skip hs352 (.refl _))))))), ?_⟩
      refine d_frz [_, _, _, _] hs399 (hs352 ++ R) rfl ?_
      intro b403 hle404 hz405
      have h406 := OS.frz (l := l393) h400 hle404.cells hz405
      have h407 := room_some h407
      refine D_all [9] (by kernel_rfl) rfl ?_
      refine R_do (hle396.trans hle404) rfl rfl (u_appOS (r := (RT.list rApiNeed)) (l := l356) [_, _, _, _] R [[.slice A397 (l393).length c398]] [l393] rfl (by decide) sl92 inf38 rfl rfl rfl rfl (h355.le (hle396.trans hle404)) rfl (fun w ho => Rd.own (i := 0) ho rfl) ⟨(RT.list_mk h406), trivial⟩ h407) ?_ ?_
      ·
       rintro _ _ ⟨hs408, rfl, h409⟩
       obtain ⟨A410, c411, rfl, _⟩ := h409.form
       refine ⟨.inr (.cons _ (.cons_cons _ (.cons_cons _ (.cons _ (sub_skip hs408 (.refl _)))))), ?_⟩
       refine D_st (hle396.trans hle404) 10 rfl (by kernel_rfl) (by kernel_rfl) (by kernel_rfl) rfl (st_nil rfl) (.cons _ (.cons_cons _ (.cons_cons _ (.cons _ (sub_skip hs408 (.refl _)))))) ?_
       refine D_st (hle396.trans hle404) 11 rfl (by kernel_rfl) (by kernel_rfl) (by kernel_rfl) rfl (st_field rfl fld94_3) (.cons _ (.cons_cons _ (.cons_cons _ (.cons _ (sub_skip hs408 (.refl _)))))) ?_
       refine D_all [12] (by kernel_rfl) rfl ?_
       refine R_do (hle396.trans hle404) rfl rfl (u_store 3 rfl rfl siz92 rfl rfl (by simp)) ?_ ?_
       ·
        rintro _ _ rfl
        refine ⟨.inr (.cons _ (.cons_cons _ (.cons_cons _ (.cons _ (sub_skip hs408 (.refl _)))))), ?_⟩
        refine D_done (by kernel_rfl) ?_
        refine x_block_normal ?_
        refine x_then_normal ?_
        refine c_region ?_
        refine t_st rfl (st_add rfl rfl (by omega)) ?_
        refine t_mv rfl rfl ?_
        refine t_nil ?_
        refine x_pullb 3 rfl ?_
        refine x_pullb 3 rfl ?_
        obtain rfl := some1 hm
        exact x_againS (e' := [(3, .pointer (some ⟨g233, 0, none⟩)), (7, .pointer (some ⟨g234, 0, none⟩)), (15, .slice A18 (l21).length c19), (16, .int .i64 ((l21.length : Int))), (17, .int .i64 ((k357 : Int) + 1))]) ⟨rfl, rfl, rfl, rfl, rfl, trivial⟩ (.cons_cons _ (.cons_cons _ (.cons _ (.cons _ (.refl _))))) ⟨A410, c411, hs408, rfl, rfl, ((hle350.trans (hle396.trans hle404))), h409⟩
       exact R_nil
      exact R_nil
     exact R_nil
    exact R_nil
   refine R_callGl (Base.Le.refl _) rfl rfl _ call16 rfl (cLineNeeds _ _ s1 x360 A2 c3 A5 c6 A8 c9 A11 c12 A14 c15 A370 c371 (h4.le hle350) (h7.le hle350) (h10.le hle350) (h13.le hle350) (h16.le hle350) h372 l393 hcl394) ?_ ?_
   ·
    rintro _ b395 _ hle396 ⟨A397, c398, hs399, rfl, rfl, h400, h401⟩
    refine ⟨.inr (sub_skip hs399 (.cons_cons _ (.cons_cons _ (.cons _ (sub_skip hs352 (.refl _)))))), ?_⟩
    refine d_in1 [] [_, _, _] hs399 (hs352 ++ R) rfl ?_
    refine D_all [4, 8] (by kernel_rfl) rfl ?_
    refine R_do hle396 rfl rfl (Stable.does (st_load 2 rfl one92 rfl rfl)) ?_ ?_
    ·
     rintro _ _ ⟨rfl, rfl⟩
     refine ⟨.inr (.cons_cons _ (.cons_cons _ (.cons _ (sub_skip hs399 (sub_skip hs352 (.refl _)))))), ?_⟩
     refine D_all [8] (by kernel_rfl) rfl ?_
     refine R_do hle396 rfl rfl (u_bslice (el := 38) [(0, .slice A397 (l393).length c398)] [.slice A397 (l393).length c398] rfl (fun _ => by kernel_rfl)) ?_ ?_
     ·
      rintro _ _ ⟨g402, rfl, rfl⟩
      refine ⟨.inr (.cons _ (.cons_cons _ (.cons_cons _ (.cons _ (sub_skip hs399 (sub_skip hs352 (.refl _))))))), ?_⟩
      refine d_frz [_, _, _, _] hs399 (hs352 ++ R) rfl ?_
      intro b403 hle404 hz405
      have h406 := OS.frz (l := l393) h400 hle404.cells hz405
      have h407 := room_some h407
      refine D_all [9] (by kernel_rfl) rfl ?_
      refine R_do (hle396.trans hle404) rfl rfl (u_appOS (r := (RT.list rApiNeed)) (l := l356) [_, _, _, _] R [[.slice A397 (l393).length c398]] [l393] rfl (by decide) sl92 inf38 rfl rfl rfl rfl (h355.le (hle396.trans hle404)) rfl (fun w ho => Rd.own (i := 0) ho rfl) ⟨(RT.list_mk h406), trivial⟩ h407) ?_ ?_
      ·
       rintro _ _ ⟨hs408, rfl, h409⟩
       obtain ⟨A410, c411, rfl, _⟩ := h409.form
       refine ⟨.inr (.cons _ (.cons_cons _ (.cons_cons _ (.cons _ (sub_skip hs408 (.refl _)))))), ?_⟩
       refine D_st (hle396.trans hle404) 10 rfl (by kernel_rfl) (by kernel_rfl) (by kernel_rfl) rfl (st_nil rfl) (.cons _ (.cons_cons _ (.cons_cons _ (.cons _ (sub_skip hs408 (.refl _)))))) ?_
       refine D_st (hle396.trans hle404) 11 rfl (by kernel_rfl) (by kernel_rfl) (by kernel_rfl) rfl (st_field rfl fld94_3) (.cons _ (.cons_cons _ (.cons_cons _ (.cons _ (sub_skip hs408 (.refl _)))))) ?_
       refine D_all [12] (by kernel_rfl) rfl ?_
       refine R_do (hle396.trans hle404) rfl rfl (u_store 3 rfl rfl siz92 rfl rfl (by simp)) ?_ ?_
       ·
        rintro _ _ rfl
        refine ⟨.inr (.cons _ (.cons_cons _ (.cons_cons _ (.cons _ (sub_skip hs408 (.refl _)))))), ?_⟩
        refine D_done (by kernel_rfl) ?_
        refine x_block_normal ?_
        refine x_then_normal ?_
        refine c_region ?_
        refine t_st rfl (st_add rfl rfl (by omega)) ?_
        refine t_mv rfl rfl ?_
        refine t_nil ?_
        refine x_pullb 3 rfl ?_
        refine x_pullb 3 rfl ?_
        obtain rfl := some1 hm
        exact x_againS (e' := [(3, .pointer (some ⟨g233, 0, none⟩)), (7, .pointer (some ⟨g234, 0, none⟩)), (15, .slice A18 (l21).length c19), (16, .int .i64 ((l21.length : Int))), (17, .int .i64 ((k357 : Int) + 1))]) ⟨rfl, rfl, rfl, rfl, rfl, trivial⟩ (.cons_cons _ (.cons_cons _ (.cons _ (.cons _ (.refl _))))) ⟨A410, c411, hs408, rfl, rfl, ((hle350.trans (hle396.trans hle404))), h409⟩
       exact R_nil
      exact R_nil
     exact R_nil
    refine R_do hle396 rfl rfl (u_bslice (el := 38) [(0, .slice A397 (l393).length c398)] [.slice A397 (l393).length c398] rfl (fun _ => by kernel_rfl)) ?_ ?_
    ·
     rintro _ _ ⟨g402, rfl, rfl⟩
     refine ⟨.inr (.cons _ (.cons_cons _ (.cons_cons _ (.cons _ (sub_skip hs399 (sub_skip hs352 (.refl _))))))), ?_⟩
     refine D_all [4] (by kernel_rfl) rfl ?_
     refine R_do hle396 rfl rfl (Stable.does (st_load 3 rfl one92 rfl rfl)) ?_ ?_
     ·
      rintro _ _ ⟨rfl, rfl⟩
      refine ⟨.inr (.cons _ (.cons_cons _ (.cons_cons _ (.cons _ (sub_skip hs399 (sub_skip hs352 (.refl _))))))), ?_⟩
      refine d_frz [_, _, _, _] hs399 (hs352 ++ R) rfl ?_
      intro b403 hle404 hz405
      have h406 := OS.frz (l := l393) h400 hle404.cells hz405
      have h407 := room_some h407
      refine D_all [9] (by kernel_rfl) rfl ?_
      refine R_do (hle396.trans hle404) rfl rfl (u_appOS (r := (RT.list rApiNeed)) (l := l356) [_, _, _, _] R [[.slice A397 (l393).length c398]] [l393] rfl (by decide) sl92 inf38 rfl rfl rfl rfl (h355.le (hle396.trans hle404)) rfl (fun w ho => Rd.own (i := 0) ho rfl) ⟨(RT.list_mk h406), trivial⟩ h407) ?_ ?_
      ·
       rintro _ _ ⟨hs408, rfl, h409⟩
       obtain ⟨A410, c411, rfl, _⟩ := h409.form
       refine ⟨.inr (.cons _ (.cons_cons _ (.cons_cons _ (.cons _ (sub_skip hs408 (.refl _)))))), ?_⟩
       refine D_st (hle396.trans hle404) 10 rfl (by kernel_rfl) (by kernel_rfl) (by kernel_rfl) rfl (st_nil rfl) (.cons _ (.cons_cons _ (.cons_cons _ (.cons _ (sub_skip hs408 (.refl _)))))) ?_
       refine D_st (hle396.trans hle404) 11 rfl (by kernel_rfl) (by kernel_rfl) (by kernel_rfl) rfl (st_field rfl fld94_3) (.cons _ (.cons_cons _ (.cons_cons _ (.cons _ (sub_skip hs408 (.refl _)))))) ?_
       refine D_all [12] (by kernel_rfl) rfl ?_
       refine R_do (hle396.trans hle404) rfl rfl (u_store 3 rfl rfl siz92 rfl rfl (by simp)) ?_ ?_
       ·
        rintro _ _ rfl
        refine ⟨.inr (.cons _ (.cons_cons _ (.cons_cons _ (.cons _ (sub_skip hs408 (.refl _)))))), ?_⟩
        refine D_done (by kernel_rfl) ?_
        refine x_block_normal ?_
        refine x_then_normal ?_
        refine c_region ?_
        refine t_st rfl (st_add rfl rfl (by omega)) ?_
        refine t_mv rfl rfl ?_
        refine t_nil ?_
        refine x_pullb 3 rfl ?_
        refine x_pullb 3 rfl ?_
        obtain rfl := some1 hm
        exact x_againS (e' := [(3, .pointer (some ⟨g233, 0, none⟩)), (7, .pointer (some ⟨g234, 0, none⟩)), (15, .slice A18 (l21).length c19), (16, .int .i64 ((l21.length : Int))), (17, .int .i64 ((k357 : Int) + 1))]) ⟨rfl, rfl, rfl, rfl, rfl, trivial⟩ (.cons_cons _ (.cons_cons _ (.cons _ (.cons _ (.refl _))))) ⟨A410, c411, hs408, rfl, rfl, ((hle350.trans (hle396.trans hle404))), h409⟩
       exact R_nil
      exact R_nil
     exact R_nil
    exact R_nil
   exact R_nil
  ·
   rintro b349 _ _ ⟨A353, c354, hs352, rfl, rfl, hle350, h355⟩
   have hm := hk359
   refine c_sr ?_
   refine t_st rfl (st_lss_f rfl rfl (by omega)) ?_
   refine t_ne ?_
   refine c_seq ?_
   refine c_cond_f rfl ?_
   refine c_exit ?_
   refine x_then_exit ?_
   refine x_then_exit ?_
   refine x_block_out ?_
   refine x_then_normal ?_
   refine c_sr ?_
   refine t_mv rfl rfl ?_
   refine t_as rfl rfl ?_
   refine t_ne ?_
   refine c_ret ?_
   obtain ⟨rfl, rfl, rfl, rfl, rfl, rfl, rfl, rfl⟩ := some8 hm
   refine x_pullb 1 rfl ?_
   have he412 := (h4.le hle350)
   have he413 := (h7.le hle350)
   have he414 := (h10.le hle350)
   have he415 := (h13.le hle350)
   have he416 := (h16.le hle350)
   have he417 := (h20.le hle350)
   exact retM (rs := [.tmp 6]) [.pointer (some ⟨g234, 0, none⟩)] hle350 (by decide) rfl ⟨rfl, trivial⟩ rfl (.cons_cons _ (.cons _ (.refl _))) ⟨g234, A2, c3, A5, c6, A8, c9, A11, c12, A14, c15, A18, c19, A353, c354, hs352, rfl, rfl, he412, he413, he414, he415, he416, he417, h355⟩

set_option maxRecDepth 20000 in
theorem cLineLegsAdd_1 (b : Base) (R : Hp) (x9 : Int) (x10 : Int) (x11 : Int) (x12 : Int) (l16 : (List ByteArray)) (l20 : (List ApiSection)) (l24 : (List ApiLink)) (l28 : (List ApiSignal)) (l32 : (List ApiGate)) (x33 : Int) (l37 : (List ApiRoute)) (l38 : (List (List ApiNeed))) (g6 : Nat) (g7 : Nat) (g8 : Nat) (A13 : Option Addr) (c14 : Nat) (A17 : Option Addr) (c18 : Nat) (A21 : Option Addr) (c22 : Nat) (A25 : Option Addr) (c26 : Nat) (A29 : Option Addr) (c30 : Nat) (A34 : Option Addr) (c35 : Nat) (A3 : Option Addr) (c4 : Nat) (hs2 : Hp) (h15 : FZ RT.str b.w A13 c14 l16) (h19 : FZ rApiSection b.w A17 c18 l20) (h23 : FZ rApiLink b.w A21 c22 l24) (h27 : FZ rApiSignal b.w A25 c26 l28) (h31 : FZ rApiGate b.w A29 c30 l32) (h36 : FZ rApiRoute b.w A34 c35 l37) (h5 : OS 38 (OT.fr (RT.list rApiNeed)) b.w (.slice A3 l38.length c4) l38 hs2) (x69 : Bool) (hm : mLineLegsAdd_1 x9 x10 x11 x12 l16 l20 l24 l28 l32 x33 l37 l38 = some x69) :
    CallsG Tryz.prog 39 [.int .i64 (x9), .pointer (some ⟨g6, 0, none⟩), .pointer (some ⟨g7, 0, none⟩)] b ((g6, Cl 66 [.pointer (some ⟨g8, 0, none⟩)]) :: (g7, Cl 56 [.int .i64 (x10), .int .i64 (x11), .int .i64 (x12)]) :: (g8, Cl 94 [.slice A13 (l16).length c14, .slice A17 (l20).length c18, .slice A21 (l24).length c22, .slice A25 (l28).length c26, .slice A29 (l32).length c30, .int .i64 (x33), .slice A34 (l37).length c35, .slice A3 (l38).length c4]) :: (hs2 ++ R)) (fun v b' hp' => .bool (x69) = v ∧ (g6, Cl 66 [.pointer (some ⟨g8, 0, none⟩)]) :: (g7, Cl 56 [.int .i64 (x10), .int .i64 (x11), .int .i64 (x12)]) :: (g8, Cl 94 [.slice A13 (l16).length c14, .slice A17 (l20).length c18, .slice A21 (l24).length c22, .slice A25 (l28).length c26, .slice A29 (l32).length c30, .int .i64 (x33), .slice A34 (l37).length c35, .slice A3 (l38).length c4]) :: (hs2 ++ R) = hp') := by
  refine fn_enterG 16 Tryz.func39 rfl Tryz.ntmps39 rfl ?_
  unfold mLineLegsAdd_1 at hm
  refine c_sr ?_
  refine t_as rfl rfl ?_
  refine t_ne ?_
  refine c_seq ?_
  obtain ⟨x85, h86, hm⟩ := bindS hm
  obtain ⟨x98, hcl99, hm⟩ := bindS hm
  refine D_drawI mixed (.refl _) ?_
  refine E_st 0 rfl (st_load 0 rfl one66 rfl rfl) ?_
  refine E_st 1 rfl (st_nil rfl) ?_
  refine E_st 2 rfl (st_field rfl fld94_2) ?_
  refine E_st 3 rfl (st_load 2 rfl one47 rfl rfl) ?_
  refine E_st 4 rfl (st_move rfl) ?_
  obtain ⟨j87, hj88, hx89⟩ := idx_some h86
  obtain ⟨cs90, hr91, hcs92, hA93, hlt94⟩ := FZ.get (sz := 3) rfl (by decide) h36 hx89
  obtain ⟨_, _, rfl, rfl, ⟨_, _, rfl, rfl, ⟨A95, c96, rfl, h97⟩⟩⟩ := hr91
  refine E_st 5 rfl (st_index_old j87 rfl rfl hj88 hlt94 hA93 sl47) ?_
  refine E_st 6 rfl (st_field_old rfl hA93 fld54_2) ?_
  refine E_st 7 rfl (st_load_old rfl one52 (hcs92 2 _ rfl)) ?_
  refine E_st 8 rfl (st_field rfl fld56_0) ?_
  refine E_st 9 rfl (st_load 1 rfl one3 rfl rfl) ?_
  refine E_out ?_
  refine D_all [10] (by kernel_rfl) rfl ?_
  refine R_do (Base.Le.refl _) rfl rfl (u_callW0 _ call40 rfl (fun w ho => cLineStands _ [] x85.Steps x10 A95 c96 (h97.old ho) x98 hcl99) (fun _ _ _ h => h.2.symm)) ?_ ?_
  ·
   rintro _ _ ⟨⟨_, rfl, _⟩, rfl⟩
   refine ⟨.inr (.refl _), ?_⟩
   refine E_in (.refl _) ?_
   refine E_st 11 rfl (st_assign rfl) ?_
   refine E_out ?_
   refine D_done (by kernel_rfl) ?_
   refine x_then_normal ?_
   refine c_ret ?_
   obtain rfl := some1 hm
   refine x_pullb 2 rfl ?_
   refine x_pullb 2 rfl ?_
   refine x_pullb 2 rfl ?_
   exact retM (rs := [.tmp 4]) [.bool (x98)] (Base.Le.refl _) (by decide) rfl ⟨rfl, trivial⟩ rfl (.refl _) ⟨rfl, rfl⟩
  exact R_nil

set_option maxRecDepth 20000 in
theorem cSlicesIndexFunc_3 (b : Base) (R : Hp) (l12 : (List Int)) (x13 : Int) (x14 : Int) (x15 : Int) (l19 : (List ByteArray)) (l23 : (List ApiSection)) (l27 : (List ApiLink)) (l31 : (List ApiSignal)) (l35 : (List ApiGate)) (x36 : Int) (l40 : (List ApiRoute)) (l41 : (List (List ApiNeed))) (g6 : Nat) (g7 : Nat) (g8 : Nat) (A9 : Option Addr) (c10 : Nat) (A16 : Option Addr) (c17 : Nat) (A20 : Option Addr) (c21 : Nat) (A24 : Option Addr) (c25 : Nat) (A28 : Option Addr) (c29 : Nat) (A32 : Option Addr) (c33 : Nat) (A37 : Option Addr) (c38 : Nat) (A3 : Option Addr) (c4 : Nat) (hs2 : Hp) (h11 : FZ (RT.int .i64) b.w A9 c10 l12) (h18 : FZ RT.str b.w A16 c17 l19) (h22 : FZ rApiSection b.w A20 c21 l23) (h26 : FZ rApiLink b.w A24 c25 l27) (h30 : FZ rApiSignal b.w A28 c29 l31) (h34 : FZ rApiGate b.w A32 c33 l35) (h39 : FZ rApiRoute b.w A37 c38 l40) (h5 : OS 38 (OT.fr (RT.list rApiNeed)) b.w (.slice A3 l41.length c4) l41 hs2) (x82 : Int) (hm : mSlicesIndexFunc_3 l12 x13 x14 x15 l19 l23 l27 l31 l35 x36 l40 l41 = some x82) :
    CallsG Tryz.prog 63 [.slice A9 (l12).length c10, .func (.func 39) #[] #[.pointer (some ⟨g6, 0, none⟩), .pointer (some ⟨g7, 0, none⟩)]] b ((g6, Cl 66 [.pointer (some ⟨g8, 0, none⟩)]) :: (g7, Cl 56 [.int .i64 (x13), .int .i64 (x14), .int .i64 (x15)]) :: (g8, Cl 94 [.slice A16 (l19).length c17, .slice A20 (l23).length c21, .slice A24 (l27).length c25, .slice A28 (l31).length c29, .slice A32 (l35).length c33, .int .i64 (x36), .slice A37 (l40).length c38, .slice A3 (l41).length c4]) :: (hs2 ++ R)) (fun v b' hp' => .int .i64 (x82) = v ∧ (g6, Cl 66 [.pointer (some ⟨g8, 0, none⟩)]) :: (g7, Cl 56 [.int .i64 (x13), .int .i64 (x14), .int .i64 (x15)]) :: (g8, Cl 94 [.slice A16 (l19).length c17, .slice A20 (l23).length c21, .slice A24 (l27).length c25, .slice A28 (l31).length c29, .slice A32 (l35).length c33, .int .i64 (x36), .slice A37 (l40).length c38, .slice A3 (l41).length c4]) :: (hs2 ++ R) = hp') := by
  refine fn_enterG 19 Tryz.func63 rfl Tryz.ntmps63 rfl ?_
  unfold mSlicesIndexFunc_3 at hm
  refine c_sr ?_
  refine t_as rfl rfl ?_
  refine t_ne ?_
  refine c_seq ?_
  refine c_sr ?_
  refine t_mv rfl rfl ?_
  refine t_st rfl (st_len rfl sl37) ?_
  refine t_mv rfl rfl ?_
  refine t_ne ?_
  refine c_block ?_
  have hb84 : l12.length ≤ 9223372036854775807 := (FZ.bd h11)
  refine c_pullb 2 rfl ?_
  refine c_pullb 2 rfl ?_
  refine c_pullb 2 rfl ?_
  obtain ⟨t103, hl104, hk105⟩ := bindS hm
  refine c_forM (fun k102 => fun _ => fun b100 e' hp' => [(0, .slice A9 (l12).length c10), (1, .func (.func 39) #[] #[.pointer (some ⟨g6, 0, none⟩), .pointer (some ⟨g7, 0, none⟩)]), (7, .int .i64 ((l12.length : Int))), (8, .int .i64 ((k102 : Int)))] = e' ∧ (g6, Cl 66 [.pointer (some ⟨g8, 0, none⟩)]) :: (g7, Cl 56 [.int .i64 (x13), .int .i64 (x14), .int .i64 (x15)]) :: (g8, Cl 94 [.slice A16 (l19).length c17, .slice A20 (l23).length c21, .slice A24 (l27).length c25, .slice A28 (l31).length c29, .slice A32 (l35).length c33, .int .i64 (x36), .slice A37 (l40).length c38, .slice A3 (l41).length c4]) :: (hs2 ++ R) = hp' ∧ b.Le b100) hl104 (e' := [(0, .slice A9 (l12).length c10), (1, .func (.func 39) #[] #[.pointer (some ⟨g6, 0, none⟩), .pointer (some ⟨g7, 0, none⟩)]), (7, .int .i64 ((l12.length : Int))), (8, .int .i64 0)]) ⟨rfl, rfl, rfl, rfl, trivial⟩ (.refl _) ⟨rfl, rfl, (Base.Le.refl _)⟩ ?_ ?_
  ·
   rintro k102 _ b100 _ _ oL83 hknL83 ⟨rfl, rfl, hle101⟩ hstepL83 houtL83
   unfold mSlicesIndexFunc_3_L83 at hstepL83
   have hm := hstepL83
   refine c_sr ?_
   refine t_st rfl (st_lss_t rfl rfl (by omega)) ?_
   refine t_ne ?_
   refine c_seq ?_
   refine c_cond_t rfl ?_
   refine c_skip ?_
   refine x_then_normal ?_
   refine c_seq ?_
   refine c_block ?_
   refine c_sr ?_
   refine t_mv rfl rfl ?_
   refine t_as rfl rfl ?_
   refine t_ne ?_
   refine c_sr ?_
   refine t_mv rfl rfl ?_
   refine t_mv rfl rfl ?_
   refine t_mv rfl rfl ?_
   obtain ⟨x106, h107, hm⟩ := bindS hm
   obtain ⟨j108, hj109, hx110⟩ := idx_some h107
   obtain ⟨cs111, hr112, hcs113, hA114, hlt115⟩ := FZ.get (sz := 1) rfl (by decide) (h11.le hle101) hx110
   obtain rfl := hr112
   refine t_st rfl (st_index_old j108 rfl rfl hj109 hlt115 hA114 sl37) ?_
   refine t_st rfl (st_load_old rfl one3 (hcs113 0 _ rfl)) ?_
   obtain ⟨x116, hcl117, hm⟩ := bindS hm
   refine t_pullb 2 rfl ?_
   refine t_pullb 2 rfl ?_
   refine t_pullb 2 rfl ?_
   refine t_out1 [_, _, _] [] hs2 R rfl ?_
   refine t_callvG #[] #[.pointer (some ⟨g6, 0, none⟩), .pointer (some ⟨g7, 0, none⟩)] [.int .i64 (x106)] rfl rfl call39 rfl (cLineLegsAdd_1 _ _ x106 x13 x14 x15 l19 l23 l27 l31 l35 x36 l40 l41 g6 g7 g8 A16 c17 A20 c21 A24 c25 A28 c29 A32 c33 A37 c38 A3 c4 hs2 (h18.le hle101) (h22.le hle101) (h26.le hle101) (h30.le hle101) (h34.le hle101) (h39.le hle101) (h5.le hle101) x116 hcl117) ?_
   rintro _ b118 _ hle119 ⟨rfl, rfl⟩
   refine t_in1 [_, _, _] [] hs2 R rfl ?_
   refine t_ne ?_
   refine c_cond _ rfl (fun hc120 => ?_) (fun hc120 => ?_)
   ·
    rw [if_pos hc120] at hm
    refine c_sr ?_
    refine t_mv rfl rfl ?_
    refine t_as rfl rfl ?_
    refine t_ne ?_
    refine c_ret ?_
    refine x_block_ret ?_
    refine x_then_ret ?_
    refine x_then_ret ?_
    refine x_block_ret ?_
    refine x_then_ret ?_
    have hq121 := houtL83 _ (Option.some.inj hm).symm
    rw [hq121] at hk105
    have hm := elimR hk105
    obtain rfl := some1 hm
    refine x_pullb 2 rfl ?_
    refine x_pullb 2 rfl ?_
    refine x_pullb 2 rfl ?_
    exact retM (rs := [.tmp 4]) [.int .i64 ((k102 : Int))] (hle101.trans hle119) (by decide) rfl ⟨rfl, trivial⟩ rfl (.refl _) ⟨rfl, rfl⟩
   ·
    rw [if_neg (fun hh => Bool.noConfusion (hh.symm.trans hc120))] at hm
    refine c_skip ?_
    refine x_block_normal ?_
    refine x_then_normal ?_
    refine c_region ?_
    refine t_st rfl (st_add rfl rfl (by omega)) ?_
    refine t_mv rfl rfl ?_
    refine t_nil ?_
    refine x_pullb 2 rfl ?_
    refine x_pullb 2 rfl ?_
    refine x_pullb 2 rfl ?_
    exact x_againM () (Option.some.inj hm).symm (e' := [(0, .slice A9 (l12).length c10), (1, .func (.func 39) #[] #[.pointer (some ⟨g6, 0, none⟩), .pointer (some ⟨g7, 0, none⟩)]), (7, .int .i64 ((l12.length : Int))), (8, .int .i64 ((k102 : Int) + 1))]) ⟨rfl, rfl, rfl, rfl, trivial⟩ (.refl _) ⟨rfl, rfl, ((hle101.trans hle119))⟩
  ·
   rintro _ b100 _ _ ⟨rfl, rfl, hle101⟩ hq122
   rw [hq122] at hk105
   have hm := elimL hk105
   refine c_sr ?_
   refine t_st rfl (st_lss_f rfl rfl (by omega)) ?_
   refine t_ne ?_
   refine c_seq ?_
   refine c_cond_f rfl ?_
   refine c_exit ?_
   refine x_then_exit ?_
   refine x_then_exit ?_
   refine x_block_out ?_
   refine x_then_normal ?_
   refine c_sr ?_
   refine t_as rfl rfl ?_
   refine t_ne ?_
   refine c_ret ?_
   obtain rfl := some1 hm
   refine x_pullb 2 rfl ?_
   refine x_pullb 2 rfl ?_
   refine x_pullb 2 rfl ?_
   exact retM (rs := [.tmp 4]) [.int .i64 ((-1))] hle101 (by decide) rfl ⟨rfl, trivial⟩ rfl (.refl _) ⟨rfl, rfl⟩

set_option maxRecDepth 20000 in
theorem cSlicesContainsFunc_3 (b : Base) (R : Hp) (l12 : (List Int)) (x13 : Int) (x14 : Int) (x15 : Int) (l19 : (List ByteArray)) (l23 : (List ApiSection)) (l27 : (List ApiLink)) (l31 : (List ApiSignal)) (l35 : (List ApiGate)) (x36 : Int) (l40 : (List ApiRoute)) (l41 : (List (List ApiNeed))) (g6 : Nat) (g7 : Nat) (g8 : Nat) (A9 : Option Addr) (c10 : Nat) (A16 : Option Addr) (c17 : Nat) (A20 : Option Addr) (c21 : Nat) (A24 : Option Addr) (c25 : Nat) (A28 : Option Addr) (c29 : Nat) (A32 : Option Addr) (c33 : Nat) (A37 : Option Addr) (c38 : Nat) (A3 : Option Addr) (c4 : Nat) (hs2 : Hp) (h11 : FZ (RT.int .i64) b.w A9 c10 l12) (h18 : FZ RT.str b.w A16 c17 l19) (h22 : FZ rApiSection b.w A20 c21 l23) (h26 : FZ rApiLink b.w A24 c25 l27) (h30 : FZ rApiSignal b.w A28 c29 l31) (h34 : FZ rApiGate b.w A32 c33 l35) (h39 : FZ rApiRoute b.w A37 c38 l40) (h5 : OS 38 (OT.fr (RT.list rApiNeed)) b.w (.slice A3 l41.length c4) l41 hs2) (x46 : Bool) (hm : mSlicesContainsFunc_3 l12 x13 x14 x15 l19 l23 l27 l31 l35 x36 l40 l41 = some x46) :
    CallsG Tryz.prog 38 [.slice A9 (l12).length c10, .func (.func 39) #[] #[.pointer (some ⟨g6, 0, none⟩), .pointer (some ⟨g7, 0, none⟩)]] b ((g6, Cl 66 [.pointer (some ⟨g8, 0, none⟩)]) :: (g7, Cl 56 [.int .i64 (x13), .int .i64 (x14), .int .i64 (x15)]) :: (g8, Cl 94 [.slice A16 (l19).length c17, .slice A20 (l23).length c21, .slice A24 (l27).length c25, .slice A28 (l31).length c29, .slice A32 (l35).length c33, .int .i64 (x36), .slice A37 (l40).length c38, .slice A3 (l41).length c4]) :: (hs2 ++ R)) (fun v b' hp' => .bool (x46) = v ∧ (g6, Cl 66 [.pointer (some ⟨g8, 0, none⟩)]) :: (g7, Cl 56 [.int .i64 (x13), .int .i64 (x14), .int .i64 (x15)]) :: (g8, Cl 94 [.slice A16 (l19).length c17, .slice A20 (l23).length c21, .slice A24 (l27).length c25, .slice A28 (l31).length c29, .slice A32 (l35).length c33, .int .i64 (x36), .slice A37 (l40).length c38, .slice A3 (l41).length c4]) :: (hs2 ++ R) = hp') := by
  refine fn_enterG 9 Tryz.func38 rfl Tryz.ntmps38 rfl ?_
  unfold mSlicesContainsFunc_3 at hm
  refine c_sr ?_
  refine t_as rfl rfl ?_
  refine t_ne ?_
  refine c_sr ?_
  refine t_mv rfl rfl ?_
  refine t_mv rfl rfl ?_
  obtain ⟨x47, hcl48, hm⟩ := bindS hm
  refine t_pullb 2 rfl ?_
  refine t_pullb 2 rfl ?_
  refine t_pullb 2 rfl ?_
  refine t_out1 [_, _, _] [] hs2 R rfl ?_
  refine t_callG _ rfl call63 rfl (cSlicesIndexFunc_3 _ _ l12 x13 x14 x15 l19 l23 l27 l31 l35 x36 l40 l41 g6 g7 g8 A9 c10 A16 c17 A20 c21 A24 c25 A28 c29 A32 c33 A37 c38 A3 c4 hs2 h11 h18 h22 h26 h30 h34 h39 h5 x47 hcl48) ?_
  rintro _ b49 _ hle50 ⟨rfl, rfl⟩
  refine t_in1 [_, _, _] [] hs2 R rfl ?_
  refine t_st rfl (st_geq rfl rfl) ?_
  refine t_as rfl rfl ?_
  refine t_ne ?_
  refine c_ret ?_
  obtain rfl := some1 hm
  refine x_pullb 2 rfl ?_
  refine x_pullb 2 rfl ?_
  refine x_pullb 2 rfl ?_
  exact retM (rs := [.tmp 4]) [.bool (decide (0 ≤ x47))] hle50 (by decide) rfl ⟨rfl, trivial⟩ rfl (.refl _) ⟨rfl, rfl⟩

set_option maxRecDepth 20000 in
theorem cLineMeets_1 (b : Base) (R : Hp) (s1 : ApiNeed) (x9 : Bool) (hm : mLineMeets_1 s1 = some x9) :
    CallsG Tryz.prog 53 [.agg #[.int .i64 (s1.Kind), .int .i64 (s1.Place), .int .i64 (s1.Position), .int .i64 (s1.At)]] b (R) (fun v b' hp' => .bool (x9) = v ∧ R = hp') := by
  refine fn_enterG 11 Tryz.func53 rfl Tryz.ntmps53 rfl ?_
  unfold mLineMeets_1 at hm
  refine c_sr ?_
  refine t_do rfl (u_box _ rfl rfl) ?_
  rintro _ _ ⟨g10, rfl, rfl⟩
  refine t_as rfl rfl ?_
  refine t_ne ?_
  obtain ⟨x14, hj15, hk15⟩ := bindS hm
  refine c_join (fun b12 e' hp' => [(2, .bool (x14))] = e' ∧ R = hp' ∧ b.Le b12) ?_ ?_
  ·
   have hm := hj15
   refine c_region ?_
   refine t_st rfl (st_field rfl fld42_0) ?_
   refine t_st rfl (st_load 0 rfl one3 rfl rfl) ?_
   refine t_bool rfl (st_eql rfl rfl) (fun hc16 => ?_) (fun hc16 => ?_)
   ·
    rw [if_pos hc16] at hm
    refine t_mv rfl rfl ?_
    refine t_no 6 rfl rfl rfl rfl rfl ?_
    refine t_no 6 rfl rfl rfl rfl rfl ?_
    refine t_no 6 rfl rfl rfl rfl rfl ?_
    refine t_st rfl (st_pick_t rfl rfl) ?_
    refine t_as rfl rfl ?_
    refine t_nil ?_
    obtain rfl := some1 hm
    exact x_join (e' := [(2, .bool (true))]) ⟨rfl, trivial⟩ (.cons _ (.refl _)) ⟨rfl, rfl, (Base.Le.refl _)⟩
   ·
    rw [if_neg hc16] at hm
    refine t_mv rfl rfl ?_
    refine t_yes 6 rfl rfl rfl ?_
    refine t_st rfl (st_field rfl fld42_0) ?_
    refine t_yes 6 rfl rfl rfl ?_
    refine t_st rfl (st_load 0 rfl one3 rfl rfl) ?_
    refine t_yes 6 rfl rfl rfl ?_
    refine t_st rfl (st_eql rfl rfl) ?_
    refine t_st rfl (st_pick_f rfl rfl) ?_
    refine t_as rfl rfl ?_
    refine t_nil ?_
    obtain rfl := some1 hm
    exact x_join (e' := [(2, .bool (decide (s1.Kind = 2)))]) ⟨rfl, trivial⟩ (.cons _ (.refl _)) ⟨rfl, rfl, (Base.Le.refl _)⟩
  ·
   rintro b12 _ _ ⟨rfl, rfl, hle13⟩
   have hm := hk15
   refine c_ret ?_
   obtain rfl := some1 hm
   exact retM (rs := [.tmp 2]) [.bool (x14)] hle13 (by decide) rfl ⟨rfl, trivial⟩ rfl (.refl _) ⟨rfl, rfl⟩

set_option maxRecDepth 20000 in
theorem cLineMeets_2 (b : Base) (R : Hp) (s2 : ApiNeed) (s3 : ApiNeed) (g1 : Nat) (x20 : Bool) (hm : mLineMeets_2 s2 s3 = some x20) :
    CallsG Tryz.prog 54 [.agg #[.int .i64 (s2.Kind), .int .i64 (s2.Place), .int .i64 (s2.Position), .int .i64 (s2.At)], .agg #[.int .i64 (s3.Kind), .int .i64 (s3.Place), .int .i64 (s3.Position), .int .i64 (s3.At)], .pointer (some ⟨g1, 0, none⟩)] b ((g1, Cl 81 [.func (.func 53) #[] #[]]) :: R) (fun v b' hp' => .bool (x20) = v ∧ (g1, Cl 81 [.func (.func 53) #[] #[]]) :: R = hp') := by
  refine fn_enterG 26 Tryz.func54 rfl Tryz.ntmps54 rfl ?_
  unfold mLineMeets_2 at hm
  refine c_sr ?_
  refine t_do rfl (u_box _ rfl rfl) ?_
  rintro _ _ ⟨g21, rfl, rfl⟩
  refine t_do rfl (u_box _ rfl rfl) ?_
  rintro _ _ ⟨g22, rfl, rfl⟩
  refine t_as rfl rfl ?_
  refine t_ne ?_
  obtain ⟨x30, hj31, hk31⟩ := bindS hm
  refine c_join (fun b28 e' hp' => [(5, .bool (x30))] = e' ∧ (g1, Cl 81 [.func (.func 53) #[] #[]]) :: R = hp' ∧ b.Le b28) ?_ ?_
  ·
   have hm := hj31
   refine c_region ?_
   refine t_st rfl (st_field rfl fld42_0) ?_
   refine t_st rfl (st_load 1 rfl one3 rfl rfl) ?_
   refine t_bool rfl (st_eql rfl rfl) (fun hc32 => ?_) (fun hc32 => ?_)
   ·
    rw [if_pos hc32] at hm
    refine t_mv rfl rfl ?_
    refine t_yes 9 rfl rfl rfl ?_
    refine t_st rfl (st_field rfl fld42_0) ?_
    refine t_yes 9 rfl rfl rfl ?_
    refine t_st rfl (st_load 0 rfl one3 rfl rfl) ?_
    refine t_yes 9 rfl rfl rfl ?_
    refine t_bool rfl (st_eql rfl rfl) (fun hc33 => ?_) (fun hc33 => ?_)
    ·
     rw [if_pos hc33] at hm
     refine t_yes 9 rfl rfl rfl ?_
     refine t_mv rfl rfl ?_
     refine t_no 13 rfl rfl rfl rfl rfl ?_
     refine t_no 13 rfl rfl rfl rfl rfl ?_
     refine t_no 13 rfl rfl rfl rfl rfl ?_
     refine t_yes 9 rfl rfl rfl ?_
     refine t_st rfl (st_pick_t rfl rfl) ?_
     refine t_st rfl (st_pick_t rfl rfl) ?_
     refine t_mv rfl rfl ?_
     refine t_yes 19 rfl rfl rfl ?_
     refine t_st rfl (st_field rfl fld42_2) ?_
     refine t_yes 19 rfl rfl rfl ?_
     refine t_st rfl (st_load 1 rfl one3 rfl rfl) ?_
     refine t_yes 19 rfl rfl rfl ?_
     refine t_st rfl (st_field rfl fld42_2) ?_
     refine t_yes 19 rfl rfl rfl ?_
     refine t_st rfl (st_load 0 rfl one3 rfl rfl) ?_
     refine t_yes 19 rfl rfl rfl ?_
     refine t_st rfl (st_neq rfl rfl) ?_
     refine t_st rfl (st_pick_t rfl rfl) ?_
     refine t_as rfl rfl ?_
     refine t_nil ?_
     obtain rfl := some1 hm
     refine x_pullb 2 rfl ?_
     exact x_join (e' := [(5, .bool (decide (s2.Position ≠ s3.Position)))]) ⟨rfl, trivial⟩ (.cons_cons _ (.cons _ (.cons _ (.refl _)))) ⟨rfl, rfl, (Base.Le.refl _)⟩
    ·
     rw [if_neg hc33] at hm
     refine t_yes 9 rfl rfl rfl ?_
     refine t_mv rfl rfl ?_
     refine t_yes 13 rfl rfl rfl ?_
     refine t_st rfl (st_load 2 rfl one81 rfl rfl) ?_
     refine t_yes 13 rfl rfl rfl ?_
     refine t_st rfl (st_loadD (vs := [_, _, _, _]) 0 4 rfl agg42 rfl rfl rfl) ?_
     refine t_yes 13 rfl rfl rfl ?_
     obtain ⟨x34, hcl35, hm⟩ := bindS hm
     refine t_do rfl (u_callvW0 #[] #[] [.agg #[.int .i64 (s3.Kind), .int .i64 (s3.Place), .int .i64 (s3.Position), .int .i64 (s3.At)]] rfl call53 rfl (fun w ho => cLineMeets_1 _ [] s3 x34 hcl35) (fun _ _ _ h => h.2.symm)) ?_
     rintro _ _ ⟨⟨_, rfl, _⟩, rfl⟩
     rcases Bool.eq_false_or_eq_true x34 with hc36 | hc36
     ·
      rw [if_pos hc36] at hm
      refine t_resp 16 rfl (v' := .bool true) (by rw [hc36] <;> rfl) ?_
      refine t_yes 9 rfl rfl rfl ?_
      refine t_st rfl (st_pick_f rfl rfl) ?_
      refine t_st rfl (st_pick_t rfl rfl) ?_
      refine t_mv rfl rfl ?_
      refine t_yes 19 rfl rfl rfl ?_
      refine t_st rfl (st_field rfl fld42_2) ?_
      refine t_yes 19 rfl rfl rfl ?_
      refine t_st rfl (st_load 1 rfl one3 rfl rfl) ?_
      refine t_yes 19 rfl rfl rfl ?_
      refine t_st rfl (st_field rfl fld42_2) ?_
      refine t_yes 19 rfl rfl rfl ?_
      refine t_st rfl (st_load 0 rfl one3 rfl rfl) ?_
      refine t_yes 19 rfl rfl rfl ?_
      refine t_st rfl (st_neq rfl rfl) ?_
      refine t_st rfl (st_pick_t rfl rfl) ?_
      refine t_as rfl rfl ?_
      refine t_nil ?_
      obtain rfl := some1 hm
      refine x_pullb 2 rfl ?_
      exact x_join (e' := [(5, .bool (decide (s2.Position ≠ s3.Position)))]) ⟨rfl, trivial⟩ (.cons_cons _ (.cons _ (.cons _ (.refl _)))) ⟨rfl, rfl, (Base.Le.refl _)⟩
     ·
      rw [if_neg (fun hh => Bool.noConfusion (hh.symm.trans hc36))] at hm
      refine t_resp 16 rfl (v' := .bool false) (by rw [hc36] <;> rfl) ?_
      refine t_yes 9 rfl rfl rfl ?_
      refine t_st rfl (st_pick_f rfl rfl) ?_
      refine t_st rfl (st_pick_t rfl rfl) ?_
      refine t_mv rfl rfl ?_
      refine t_no 19 rfl rfl rfl rfl rfl ?_
      refine t_no 19 rfl rfl rfl rfl rfl ?_
      refine t_no 19 rfl rfl rfl rfl rfl ?_
      refine t_no 19 rfl rfl rfl rfl rfl ?_
      refine t_no 19 rfl rfl rfl rfl rfl ?_
      refine t_st rfl (st_pick_f rfl rfl) ?_
      refine t_as rfl rfl ?_
      refine t_nil ?_
      obtain rfl := some1 hm
      refine x_pullb 2 rfl ?_
      exact x_join (e' := [(5, .bool (false))]) ⟨rfl, trivial⟩ (.cons_cons _ (.cons _ (.cons _ (.refl _)))) ⟨rfl, rfl, (Base.Le.refl _)⟩
   ·
    rw [if_neg hc32] at hm
    refine t_mv rfl rfl ?_
    refine t_no 9 rfl rfl rfl rfl rfl ?_
    refine t_no 9 rfl rfl rfl rfl rfl ?_
    refine t_no 9 rfl rfl rfl rfl rfl ?_
    refine t_no 9 rfl rfl rfl rfl rfl ?_
    refine t_no 13 rfl rfl rfl rfl rfl ?_
    refine t_no 13 rfl rfl rfl rfl rfl ?_
    refine t_no 13 rfl rfl rfl rfl rfl ?_
    refine t_no 9 rfl rfl rfl rfl rfl ?_
    refine t_st rfl (st_pick_f rfl rfl) ?_
    refine t_mv rfl rfl ?_
    refine t_no 19 rfl rfl rfl rfl rfl ?_
    refine t_no 19 rfl rfl rfl rfl rfl ?_
    refine t_no 19 rfl rfl rfl rfl rfl ?_
    refine t_no 19 rfl rfl rfl rfl rfl ?_
    refine t_no 19 rfl rfl rfl rfl rfl ?_
    refine t_st rfl (st_pick_f rfl rfl) ?_
    refine t_as rfl rfl ?_
    refine t_nil ?_
    obtain rfl := some1 hm
    refine x_pullb 2 rfl ?_
    exact x_join (e' := [(5, .bool (false))]) ⟨rfl, trivial⟩ (.cons_cons _ (.cons _ (.cons _ (.refl _)))) ⟨rfl, rfl, (Base.Le.refl _)⟩
  ·
   rintro b28 _ _ ⟨rfl, rfl, hle29⟩
   have hm := hk31
   refine c_ret ?_
   obtain rfl := some1 hm
   exact retM (rs := [.tmp 5]) [.bool (x30)] hle29 (by decide) rfl ⟨rfl, trivial⟩ rfl (.refl _) ⟨rfl, rfl⟩

set_option maxRecDepth 20000 in
theorem cLineMeets_3 (b : Base) (R : Hp) (s1 : ApiNeed) (s2 : ApiNeed) (x11 : Bool) (hm : mLineMeets_3 s1 s2 = some x11) :
    CallsG Tryz.prog 55 [.agg #[.int .i64 (s1.Kind), .int .i64 (s1.Place), .int .i64 (s1.Position), .int .i64 (s1.At)], .agg #[.int .i64 (s2.Kind), .int .i64 (s2.Place), .int .i64 (s2.Position), .int .i64 (s2.At)]] b (R) (fun v b' hp' => .bool (x11) = v ∧ R = hp') := by
  refine fn_enterG 13 Tryz.func55 rfl Tryz.ntmps55 rfl ?_
  unfold mLineMeets_3 at hm
  refine c_sr ?_
  refine t_do rfl (u_box _ rfl rfl) ?_
  rintro _ _ ⟨g12, rfl, rfl⟩
  refine t_do rfl (u_box _ rfl rfl) ?_
  rintro _ _ ⟨g13, rfl, rfl⟩
  refine t_as rfl rfl ?_
  refine t_ne ?_
  obtain ⟨x17, hj18, hk18⟩ := bindS hm
  refine c_join (fun b15 e' hp' => [(4, .bool (x17))] = e' ∧ R = hp' ∧ b.Le b15) ?_ ?_
  ·
   have hm := hj18
   refine c_region ?_
   refine t_st rfl (st_field rfl fld42_0) ?_
   refine t_st rfl (st_load 1 rfl one3 rfl rfl) ?_
   refine t_bool rfl (st_eql rfl rfl) (fun hc19 => ?_) (fun hc19 => ?_)
   ·
    rw [if_pos hc19] at hm
    refine t_mv rfl rfl ?_
    refine t_yes 8 rfl rfl rfl ?_
    refine t_st rfl (st_field rfl fld42_0) ?_
    refine t_yes 8 rfl rfl rfl ?_
    refine t_st rfl (st_load 0 rfl one3 rfl rfl) ?_
    refine t_yes 8 rfl rfl rfl ?_
    refine t_st rfl (st_eql rfl rfl) ?_
    refine t_st rfl (st_pick_t rfl rfl) ?_
    refine t_as rfl rfl ?_
    refine t_nil ?_
    obtain rfl := some1 hm
    exact x_join (e' := [(4, .bool (decide (s2.Kind = 5)))]) ⟨rfl, trivial⟩ (.cons _ (.cons _ (.refl _))) ⟨rfl, rfl, (Base.Le.refl _)⟩
   ·
    rw [if_neg hc19] at hm
    refine t_mv rfl rfl ?_
    refine t_no 8 rfl rfl rfl rfl rfl ?_
    refine t_no 8 rfl rfl rfl rfl rfl ?_
    refine t_no 8 rfl rfl rfl rfl rfl ?_
    refine t_st rfl (st_pick_f rfl rfl) ?_
    refine t_as rfl rfl ?_
    refine t_nil ?_
    obtain rfl := some1 hm
    exact x_join (e' := [(4, .bool (false))]) ⟨rfl, trivial⟩ (.cons _ (.cons _ (.refl _))) ⟨rfl, rfl, (Base.Le.refl _)⟩
  ·
   rintro b15 _ _ ⟨rfl, rfl, hle16⟩
   have hm := hk18
   refine c_ret ?_
   obtain rfl := some1 hm
   exact retM (rs := [.tmp 4]) [.bool (x17)] hle16 (by decide) rfl ⟨rfl, trivial⟩ rfl (.refl _) ⟨rfl, rfl⟩

set_option maxRecDepth 20000 in
theorem cLineMeets (b : Base) (R : Hp) (s1 : ApiNeed) (s2 : ApiNeed) (x83 : Bool) (hm : mLineMeets s1 s2 = some x83) :
    CallsG Tryz.prog 33 [.agg #[.int .i64 (s1.Kind), .int .i64 (s1.Place), .int .i64 (s1.Position), .int .i64 (s1.At)], .agg #[.int .i64 (s2.Kind), .int .i64 (s2.Place), .int .i64 (s2.Position), .int .i64 (s2.At)]] b (R) (fun v b' hp' => .bool (x83) = v ∧ R = hp') := by
  refine fn_enterG 46 Tryz.func33 rfl Tryz.ntmps33 rfl ?_
  unfold mLineMeets at hm
  refine c_sr ?_
  refine t_do rfl (u_box _ rfl rfl) ?_
  rintro _ _ ⟨g84, rfl, rfl⟩
  refine t_do rfl (u_box _ rfl rfl) ?_
  rintro _ _ ⟨g85, rfl, rfl⟩
  refine t_as rfl rfl ?_
  refine t_ne ?_
  refine c_seq ?_
  refine c_sr ?_
  refine t_st rfl (st_field rfl fld42_1) ?_
  refine t_st rfl (st_load 1 rfl one3 rfl rfl) ?_
  refine t_st rfl (st_field rfl fld42_1) ?_
  refine t_st rfl (st_load 0 rfl one3 rfl rfl) ?_
  refine t_st rfl (st_neq rfl rfl) ?_
  refine t_ne ?_
  refine c_cond _ rfl (fun hc86 => ?_) (fun hc86 => ?_)
  ·
   rw [if_pos (of_decide_eq_true hc86)] at hm
   refine c_sr ?_
   refine t_as rfl rfl ?_
   refine t_ne ?_
   refine c_ret ?_
   refine x_then_ret ?_
   obtain rfl := some1 hm
   exact retM (rs := [.tmp 4]) [.bool (false)] (Base.Le.refl _) (by decide) rfl ⟨rfl, trivial⟩ rfl (.cons _ (.cons _ (.refl _))) ⟨rfl, rfl⟩
  ·
   rw [if_neg (of_decide_eq_false hc86)] at hm
   refine c_skip ?_
   refine x_then_normal ?_
   refine c_sr ?_
   refine t_do rfl (u_alloc [.nilFunc] zero81 rfl) ?_
   rintro _ _ ⟨g87, rfl, rfl⟩
   refine t_do rfl (u_store 0 rfl rfl siz81 rfl rfl (by simp)) ?_
   rintro _ _ rfl
   refine t_ne ?_
   refine c_sr ?_
   refine t_st rfl (st_func _ _ rfl rfl) ?_
   refine t_as rfl rfl ?_
   refine t_ne ?_
   refine c_sr ?_
   refine t_as rfl rfl ?_
   refine t_ne ?_
   obtain ⟨x126, hj127, hk127⟩ := bindS hm
   refine c_join (fun b124 e' hp' => [(4, .bool (x126))] = e' ∧ R = hp' ∧ b.Le b124) ?_ ?_
   ·
    have hm := hj127
    refine c_region ?_
    refine t_st rfl (st_load 0 rfl one81 rfl rfl) ?_
    refine t_st rfl (st_loadD (vs := [_, _, _, _]) 2 4 rfl agg42 rfl rfl rfl) ?_
    obtain ⟨x128, hcl129, hm⟩ := bindS hm
    refine t_do rfl (u_callvW0 #[] #[] [.agg #[.int .i64 (s1.Kind), .int .i64 (s1.Place), .int .i64 (s1.Position), .int .i64 (s1.At)]] rfl call53 rfl (fun w ho => cLineMeets_1 _ [] s1 x128 hcl129) (fun _ _ _ h => h.2.symm)) ?_
    rintro _ _ ⟨⟨_, rfl, _⟩, rfl⟩
    rcases Bool.eq_false_or_eq_true x128 with hc130 | hc130
    ·
     rw [if_pos hc130] at hm
     refine t_resp 16 rfl (v' := .bool true) (by rw [hc130] <;> rfl) ?_
     refine t_mv rfl rfl ?_
     refine t_yes 17 rfl rfl rfl ?_
     refine t_st rfl (st_load 0 rfl one81 rfl rfl) ?_
     refine t_yes 17 rfl rfl rfl ?_
     refine t_st rfl (st_loadD (vs := [_, _, _, _]) 1 4 rfl agg42 rfl rfl rfl) ?_
     refine t_yes 17 rfl rfl rfl ?_
     obtain ⟨x131, hcl132, hm⟩ := bindS hm
     refine t_do rfl (u_callvW0 #[] #[] [.agg #[.int .i64 (s2.Kind), .int .i64 (s2.Place), .int .i64 (s2.Position), .int .i64 (s2.At)]] rfl call53 rfl (fun w ho => cLineMeets_1 _ [] s2 x131 hcl132) (fun _ _ _ h => h.2.symm)) ?_
     rintro _ _ ⟨⟨_, rfl, _⟩, rfl⟩
     rcases Bool.eq_false_or_eq_true x131 with hc133 | hc133
     ·
      rw [if_pos hc133] at hm
      refine t_resp 20 rfl (v' := .bool true) (by rw [hc133] <;> rfl) ?_
      refine t_st rfl (st_pick_t rfl rfl) ?_
      refine t_mv rfl rfl ?_
      refine t_no 22 rfl rfl rfl rfl rfl ?_
      refine t_no 22 rfl rfl rfl rfl rfl ?_
      refine t_no 22 rfl rfl rfl rfl rfl ?_
      refine t_no 22 rfl rfl rfl rfl rfl ?_
      refine t_st rfl (st_pick_t rfl rfl) ?_
      refine t_mv rfl rfl ?_
      refine t_no 28 rfl rfl rfl rfl rfl ?_
      refine t_no 28 rfl rfl rfl rfl rfl ?_
      refine t_no 28 rfl rfl rfl rfl rfl ?_
      refine t_no 28 rfl rfl rfl rfl rfl ?_
      refine t_st rfl (st_pick_t rfl rfl) ?_
      refine t_mv rfl rfl ?_
      refine t_no 34 rfl rfl rfl rfl rfl ?_
      refine t_no 34 rfl rfl rfl rfl rfl ?_
      refine t_no 34 rfl rfl rfl rfl rfl ?_
      refine t_no 34 rfl rfl rfl rfl rfl ?_
      refine t_st rfl (st_pick_t rfl rfl) ?_
      refine t_mv rfl rfl ?_
      refine t_no 40 rfl rfl rfl rfl rfl ?_
      refine t_no 40 rfl rfl rfl rfl rfl ?_
      refine t_no 40 rfl rfl rfl rfl rfl ?_
      refine t_no 40 rfl rfl rfl rfl rfl ?_
      refine t_st rfl (st_pick_t rfl rfl) ?_
      refine t_as rfl rfl ?_
      refine t_nil ?_
      obtain rfl := some1 hm
      exact x_join (e' := [(4, .bool (true))]) ⟨rfl, trivial⟩ (.cons _ (.cons _ (.cons _ (.refl _)))) ⟨rfl, rfl, (Base.Le.refl _)⟩
     ·
      rw [if_neg (fun hh => Bool.noConfusion (hh.symm.trans hc133))] at hm
      refine t_resp 20 rfl (v' := .bool false) (by rw [hc133] <;> rfl) ?_
      refine t_st rfl (st_pick_t rfl rfl) ?_
      refine t_mv rfl rfl ?_
      refine t_yes 22 rfl rfl rfl ?_
      refine t_mv rfl rfl ?_
      refine t_yes 22 rfl rfl rfl ?_
      refine t_st rfl (st_loadD (vs := [_, _, _, _]) 2 4 rfl agg42 rfl rfl rfl) ?_
      refine t_yes 22 rfl rfl rfl ?_
      refine t_st rfl (st_loadD (vs := [_, _, _, _]) 1 4 rfl agg42 rfl rfl rfl) ?_
      refine t_yes 22 rfl rfl rfl ?_
      obtain ⟨x134, hcl135, hm⟩ := bindS hm
      refine t_callvG #[] #[.pointer (some ⟨g87, 0, none⟩)] [.agg #[.int .i64 (s1.Kind), .int .i64 (s1.Place), .int .i64 (s1.Position), .int .i64 (s1.At)], .agg #[.int .i64 (s2.Kind), .int .i64 (s2.Place), .int .i64 (s2.Position), .int .i64 (s2.At)]] rfl rfl call54 rfl (cLineMeets_2 _ _ s1 s2 g87 x134 hcl135) ?_
      rintro _ b136 _ hle137 ⟨rfl, rfl⟩
      rcases Bool.eq_false_or_eq_true x134 with hc138 | hc138
      ·
       rw [if_pos hc138] at hm
       refine t_resp 26 rfl (v' := .bool true) (by rw [hc138] <;> rfl) ?_
       refine t_st rfl (st_pick_f rfl rfl) ?_
       refine t_mv rfl rfl ?_
       refine t_no 28 rfl rfl rfl rfl rfl ?_
       refine t_no 28 rfl rfl rfl rfl rfl ?_
       refine t_no 28 rfl rfl rfl rfl rfl ?_
       refine t_no 28 rfl rfl rfl rfl rfl ?_
       refine t_st rfl (st_pick_t rfl rfl) ?_
       refine t_mv rfl rfl ?_
       refine t_no 34 rfl rfl rfl rfl rfl ?_
       refine t_no 34 rfl rfl rfl rfl rfl ?_
       refine t_no 34 rfl rfl rfl rfl rfl ?_
       refine t_no 34 rfl rfl rfl rfl rfl ?_
       refine t_st rfl (st_pick_t rfl rfl) ?_
       refine t_mv rfl rfl ?_
       refine t_no 40 rfl rfl rfl rfl rfl ?_
       refine t_no 40 rfl rfl rfl rfl rfl ?_
       refine t_no 40 rfl rfl rfl rfl rfl ?_
       refine t_no 40 rfl rfl rfl rfl rfl ?_
       refine t_st rfl (st_pick_t rfl rfl) ?_
       refine t_as rfl rfl ?_
       refine t_nil ?_
       obtain rfl := some1 hm
       exact x_join (e' := [(4, .bool (true))]) ⟨rfl, trivial⟩ (.cons _ (.cons _ (.cons _ (.refl _)))) ⟨rfl, rfl, hle137⟩
      ·
       rw [if_neg (fun hh => Bool.noConfusion (hh.symm.trans hc138))] at hm
       refine t_resp 26 rfl (v' := .bool false) (by rw [hc138] <;> rfl) ?_
       refine t_st rfl (st_pick_f rfl rfl) ?_
       refine t_mv rfl rfl ?_
       refine t_yes 28 rfl rfl rfl ?_
       refine t_mv rfl rfl ?_
       refine t_yes 28 rfl rfl rfl ?_
       refine t_st rfl (st_loadD (vs := [_, _, _, _]) 1 4 rfl agg42 rfl rfl rfl) ?_
       refine t_yes 28 rfl rfl rfl ?_
       refine t_st rfl (st_loadD (vs := [_, _, _, _]) 2 4 rfl agg42 rfl rfl rfl) ?_
       refine t_yes 28 rfl rfl rfl ?_
       obtain ⟨x139, hcl140, hm⟩ := bindS hm
       refine t_callvG #[] #[.pointer (some ⟨g87, 0, none⟩)] [.agg #[.int .i64 (s2.Kind), .int .i64 (s2.Place), .int .i64 (s2.Position), .int .i64 (s2.At)], .agg #[.int .i64 (s1.Kind), .int .i64 (s1.Place), .int .i64 (s1.Position), .int .i64 (s1.At)]] rfl rfl call54 rfl (cLineMeets_2 _ _ s2 s1 g87 x139 hcl140) ?_
       rintro _ b141 _ hle142 ⟨rfl, rfl⟩
       rcases Bool.eq_false_or_eq_true x139 with hc143 | hc143
       ·
        rw [if_pos hc143] at hm
        refine t_resp 32 rfl (v' := .bool true) (by rw [hc143] <;> rfl) ?_
        refine t_st rfl (st_pick_f rfl rfl) ?_
        refine t_mv rfl rfl ?_
        refine t_no 34 rfl rfl rfl rfl rfl ?_
        refine t_no 34 rfl rfl rfl rfl rfl ?_
        refine t_no 34 rfl rfl rfl rfl rfl ?_
        refine t_no 34 rfl rfl rfl rfl rfl ?_
        refine t_st rfl (st_pick_t rfl rfl) ?_
        refine t_mv rfl rfl ?_
        refine t_no 40 rfl rfl rfl rfl rfl ?_
        refine t_no 40 rfl rfl rfl rfl rfl ?_
        refine t_no 40 rfl rfl rfl rfl rfl ?_
        refine t_no 40 rfl rfl rfl rfl rfl ?_
        refine t_st rfl (st_pick_t rfl rfl) ?_
        refine t_as rfl rfl ?_
        refine t_nil ?_
        obtain rfl := some1 hm
        exact x_join (e' := [(4, .bool (true))]) ⟨rfl, trivial⟩ (.cons _ (.cons _ (.cons _ (.refl _)))) ⟨rfl, rfl, (hle137.trans hle142)⟩
       ·
        rw [if_neg (fun hh => Bool.noConfusion (hh.symm.trans hc143))] at hm
        refine t_resp 32 rfl (v' := .bool false) (by rw [hc143] <;> rfl) ?_
        refine t_st rfl (st_pick_f rfl rfl) ?_
        refine t_mv rfl rfl ?_
        refine t_yes 34 rfl rfl rfl ?_
        refine t_mv rfl rfl ?_
        refine t_yes 34 rfl rfl rfl ?_
        refine t_st rfl (st_loadD (vs := [_, _, _, _]) 2 4 rfl agg42 rfl rfl rfl) ?_
        refine t_yes 34 rfl rfl rfl ?_
        refine t_st rfl (st_loadD (vs := [_, _, _, _]) 1 4 rfl agg42 rfl rfl rfl) ?_
        refine t_yes 34 rfl rfl rfl ?_
        obtain ⟨x144, hcl145, hm⟩ := bindS hm
        refine t_do rfl (u_callvW0 #[] #[] [.agg #[.int .i64 (s1.Kind), .int .i64 (s1.Place), .int .i64 (s1.Position), .int .i64 (s1.At)], .agg #[.int .i64 (s2.Kind), .int .i64 (s2.Place), .int .i64 (s2.Position), .int .i64 (s2.At)]] rfl call55 rfl (fun w ho => cLineMeets_3 _ [] s1 s2 x144 hcl145) (fun _ _ _ h => h.2.symm)) ?_
        rintro _ _ ⟨⟨_, rfl, _⟩, rfl⟩
        rcases Bool.eq_false_or_eq_true x144 with hc146 | hc146
        ·
         rw [if_pos hc146] at hm
         refine t_resp 38 rfl (v' := .bool true) (by rw [hc146] <;> rfl) ?_
         refine t_st rfl (st_pick_f rfl rfl) ?_
         refine t_mv rfl rfl ?_
         refine t_no 40 rfl rfl rfl rfl rfl ?_
         refine t_no 40 rfl rfl rfl rfl rfl ?_
         refine t_no 40 rfl rfl rfl rfl rfl ?_
         refine t_no 40 rfl rfl rfl rfl rfl ?_
         refine t_st rfl (st_pick_t rfl rfl) ?_
         refine t_as rfl rfl ?_
         refine t_nil ?_
         obtain rfl := some1 hm
         exact x_join (e' := [(4, .bool (true))]) ⟨rfl, trivial⟩ (.cons _ (.cons _ (.cons _ (.refl _)))) ⟨rfl, rfl, (hle137.trans hle142)⟩
        ·
         rw [if_neg (fun hh => Bool.noConfusion (hh.symm.trans hc146))] at hm
         refine t_resp 38 rfl (v' := .bool false) (by rw [hc146] <;> rfl) ?_
         refine t_st rfl (st_pick_f rfl rfl) ?_
         refine t_mv rfl rfl ?_
         refine t_yes 40 rfl rfl rfl ?_
         refine t_mv rfl rfl ?_
         refine t_yes 40 rfl rfl rfl ?_
         refine t_st rfl (st_loadD (vs := [_, _, _, _]) 1 4 rfl agg42 rfl rfl rfl) ?_
         refine t_yes 40 rfl rfl rfl ?_
         refine t_st rfl (st_loadD (vs := [_, _, _, _]) 2 4 rfl agg42 rfl rfl rfl) ?_
         refine t_yes 40 rfl rfl rfl ?_
         obtain ⟨x147, hcl148, hm⟩ := bindS hm
         refine t_do rfl (u_callvW0 #[] #[] [.agg #[.int .i64 (s2.Kind), .int .i64 (s2.Place), .int .i64 (s2.Position), .int .i64 (s2.At)], .agg #[.int .i64 (s1.Kind), .int .i64 (s1.Place), .int .i64 (s1.Position), .int .i64 (s1.At)]] rfl call55 rfl (fun w ho => cLineMeets_3 _ [] s2 s1 x147 hcl148) (fun _ _ _ h => h.2.symm)) ?_
         rintro _ _ ⟨⟨_, rfl, _⟩, rfl⟩
         refine t_st rfl (st_pick_f rfl rfl) ?_
         refine t_as rfl rfl ?_
         refine t_nil ?_
         obtain rfl := some1 hm
         exact x_join (e' := [(4, .bool (x147))]) ⟨rfl, trivial⟩ (.cons _ (.cons _ (.cons _ (.refl _)))) ⟨rfl, rfl, (hle137.trans hle142)⟩
    ·
     rw [if_neg (fun hh => Bool.noConfusion (hh.symm.trans hc130))] at hm
     refine t_resp 16 rfl (v' := .bool false) (by rw [hc130] <;> rfl) ?_
     refine t_mv rfl rfl ?_
     refine t_no 17 rfl rfl rfl rfl rfl ?_
     refine t_no 17 rfl rfl rfl rfl rfl ?_
     refine t_no 17 rfl rfl rfl rfl rfl ?_
     refine t_st rfl (st_pick_f rfl rfl) ?_
     refine t_mv rfl rfl ?_
     refine t_yes 22 rfl rfl rfl ?_
     refine t_mv rfl rfl ?_
     refine t_yes 22 rfl rfl rfl ?_
     refine t_st rfl (st_loadD (vs := [_, _, _, _]) 2 4 rfl agg42 rfl rfl rfl) ?_
     refine t_yes 22 rfl rfl rfl ?_
     refine t_st rfl (st_loadD (vs := [_, _, _, _]) 1 4 rfl agg42 rfl rfl rfl) ?_
     refine t_yes 22 rfl rfl rfl ?_
     obtain ⟨x149, hcl150, hm⟩ := bindS hm
     refine t_callvG #[] #[.pointer (some ⟨g87, 0, none⟩)] [.agg #[.int .i64 (s1.Kind), .int .i64 (s1.Place), .int .i64 (s1.Position), .int .i64 (s1.At)], .agg #[.int .i64 (s2.Kind), .int .i64 (s2.Place), .int .i64 (s2.Position), .int .i64 (s2.At)]] rfl rfl call54 rfl (cLineMeets_2 _ _ s1 s2 g87 x149 hcl150) ?_
     rintro _ b151 _ hle152 ⟨rfl, rfl⟩
     rcases Bool.eq_false_or_eq_true x149 with hc153 | hc153
     ·
      rw [if_pos hc153] at hm
      refine t_resp 26 rfl (v' := .bool true) (by rw [hc153] <;> rfl) ?_
      refine t_st rfl (st_pick_f rfl rfl) ?_
      refine t_mv rfl rfl ?_
      refine t_no 28 rfl rfl rfl rfl rfl ?_
      refine t_no 28 rfl rfl rfl rfl rfl ?_
      refine t_no 28 rfl rfl rfl rfl rfl ?_
      refine t_no 28 rfl rfl rfl rfl rfl ?_
      refine t_st rfl (st_pick_t rfl rfl) ?_
      refine t_mv rfl rfl ?_
      refine t_no 34 rfl rfl rfl rfl rfl ?_
      refine t_no 34 rfl rfl rfl rfl rfl ?_
      refine t_no 34 rfl rfl rfl rfl rfl ?_
      refine t_no 34 rfl rfl rfl rfl rfl ?_
      refine t_st rfl (st_pick_t rfl rfl) ?_
      refine t_mv rfl rfl ?_
      refine t_no 40 rfl rfl rfl rfl rfl ?_
      refine t_no 40 rfl rfl rfl rfl rfl ?_
      refine t_no 40 rfl rfl rfl rfl rfl ?_
      refine t_no 40 rfl rfl rfl rfl rfl ?_
      refine t_st rfl (st_pick_t rfl rfl) ?_
      refine t_as rfl rfl ?_
      refine t_nil ?_
      obtain rfl := some1 hm
      exact x_join (e' := [(4, .bool (true))]) ⟨rfl, trivial⟩ (.cons _ (.cons _ (.cons _ (.refl _)))) ⟨rfl, rfl, hle152⟩
     ·
      rw [if_neg (fun hh => Bool.noConfusion (hh.symm.trans hc153))] at hm
      refine t_resp 26 rfl (v' := .bool false) (by rw [hc153] <;> rfl) ?_
      refine t_st rfl (st_pick_f rfl rfl) ?_
      refine t_mv rfl rfl ?_
      refine t_yes 28 rfl rfl rfl ?_
      refine t_mv rfl rfl ?_
      refine t_yes 28 rfl rfl rfl ?_
      refine t_st rfl (st_loadD (vs := [_, _, _, _]) 1 4 rfl agg42 rfl rfl rfl) ?_
      refine t_yes 28 rfl rfl rfl ?_
      refine t_st rfl (st_loadD (vs := [_, _, _, _]) 2 4 rfl agg42 rfl rfl rfl) ?_
      refine t_yes 28 rfl rfl rfl ?_
      obtain ⟨x154, hcl155, hm⟩ := bindS hm
      refine t_callvG #[] #[.pointer (some ⟨g87, 0, none⟩)] [.agg #[.int .i64 (s2.Kind), .int .i64 (s2.Place), .int .i64 (s2.Position), .int .i64 (s2.At)], .agg #[.int .i64 (s1.Kind), .int .i64 (s1.Place), .int .i64 (s1.Position), .int .i64 (s1.At)]] rfl rfl call54 rfl (cLineMeets_2 _ _ s2 s1 g87 x154 hcl155) ?_
      rintro _ b156 _ hle157 ⟨rfl, rfl⟩
      rcases Bool.eq_false_or_eq_true x154 with hc158 | hc158
      ·
       rw [if_pos hc158] at hm
       refine t_resp 32 rfl (v' := .bool true) (by rw [hc158] <;> rfl) ?_
       refine t_st rfl (st_pick_f rfl rfl) ?_
       refine t_mv rfl rfl ?_
       refine t_no 34 rfl rfl rfl rfl rfl ?_
       refine t_no 34 rfl rfl rfl rfl rfl ?_
       refine t_no 34 rfl rfl rfl rfl rfl ?_
       refine t_no 34 rfl rfl rfl rfl rfl ?_
       refine t_st rfl (st_pick_t rfl rfl) ?_
       refine t_mv rfl rfl ?_
       refine t_no 40 rfl rfl rfl rfl rfl ?_
       refine t_no 40 rfl rfl rfl rfl rfl ?_
       refine t_no 40 rfl rfl rfl rfl rfl ?_
       refine t_no 40 rfl rfl rfl rfl rfl ?_
       refine t_st rfl (st_pick_t rfl rfl) ?_
       refine t_as rfl rfl ?_
       refine t_nil ?_
       obtain rfl := some1 hm
       exact x_join (e' := [(4, .bool (true))]) ⟨rfl, trivial⟩ (.cons _ (.cons _ (.cons _ (.refl _)))) ⟨rfl, rfl, (hle152.trans hle157)⟩
      ·
       rw [if_neg (fun hh => Bool.noConfusion (hh.symm.trans hc158))] at hm
       refine t_resp 32 rfl (v' := .bool false) (by rw [hc158] <;> rfl) ?_
       refine t_st rfl (st_pick_f rfl rfl) ?_
       refine t_mv rfl rfl ?_
       refine t_yes 34 rfl rfl rfl ?_
       refine t_mv rfl rfl ?_
       refine t_yes 34 rfl rfl rfl ?_
       refine t_st rfl (st_loadD (vs := [_, _, _, _]) 2 4 rfl agg42 rfl rfl rfl) ?_
       refine t_yes 34 rfl rfl rfl ?_
       refine t_st rfl (st_loadD (vs := [_, _, _, _]) 1 4 rfl agg42 rfl rfl rfl) ?_
       refine t_yes 34 rfl rfl rfl ?_
       obtain ⟨x159, hcl160, hm⟩ := bindS hm
       refine t_do rfl (u_callvW0 #[] #[] [.agg #[.int .i64 (s1.Kind), .int .i64 (s1.Place), .int .i64 (s1.Position), .int .i64 (s1.At)], .agg #[.int .i64 (s2.Kind), .int .i64 (s2.Place), .int .i64 (s2.Position), .int .i64 (s2.At)]] rfl call55 rfl (fun w ho => cLineMeets_3 _ [] s1 s2 x159 hcl160) (fun _ _ _ h => h.2.symm)) ?_
       rintro _ _ ⟨⟨_, rfl, _⟩, rfl⟩
       rcases Bool.eq_false_or_eq_true x159 with hc161 | hc161
       ·
        rw [if_pos hc161] at hm
        refine t_resp 38 rfl (v' := .bool true) (by rw [hc161] <;> rfl) ?_
        refine t_st rfl (st_pick_f rfl rfl) ?_
        refine t_mv rfl rfl ?_
        refine t_no 40 rfl rfl rfl rfl rfl ?_
        refine t_no 40 rfl rfl rfl rfl rfl ?_
        refine t_no 40 rfl rfl rfl rfl rfl ?_
        refine t_no 40 rfl rfl rfl rfl rfl ?_
        refine t_st rfl (st_pick_t rfl rfl) ?_
        refine t_as rfl rfl ?_
        refine t_nil ?_
        obtain rfl := some1 hm
        exact x_join (e' := [(4, .bool (true))]) ⟨rfl, trivial⟩ (.cons _ (.cons _ (.cons _ (.refl _)))) ⟨rfl, rfl, (hle152.trans hle157)⟩
       ·
        rw [if_neg (fun hh => Bool.noConfusion (hh.symm.trans hc161))] at hm
        refine t_resp 38 rfl (v' := .bool false) (by rw [hc161] <;> rfl) ?_
        refine t_st rfl (st_pick_f rfl rfl) ?_
        refine t_mv rfl rfl ?_
        refine t_yes 40 rfl rfl rfl ?_
        refine t_mv rfl rfl ?_
        refine t_yes 40 rfl rfl rfl ?_
        refine t_st rfl (st_loadD (vs := [_, _, _, _]) 1 4 rfl agg42 rfl rfl rfl) ?_
        refine t_yes 40 rfl rfl rfl ?_
        refine t_st rfl (st_loadD (vs := [_, _, _, _]) 2 4 rfl agg42 rfl rfl rfl) ?_
        refine t_yes 40 rfl rfl rfl ?_
        obtain ⟨x162, hcl163, hm⟩ := bindS hm
        refine t_do rfl (u_callvW0 #[] #[] [.agg #[.int .i64 (s2.Kind), .int .i64 (s2.Place), .int .i64 (s2.Position), .int .i64 (s2.At)], .agg #[.int .i64 (s1.Kind), .int .i64 (s1.Place), .int .i64 (s1.Position), .int .i64 (s1.At)]] rfl call55 rfl (fun w ho => cLineMeets_3 _ [] s2 s1 x162 hcl163) (fun _ _ _ h => h.2.symm)) ?_
        rintro _ _ ⟨⟨_, rfl, _⟩, rfl⟩
        refine t_st rfl (st_pick_f rfl rfl) ?_
        refine t_as rfl rfl ?_
        refine t_nil ?_
        obtain rfl := some1 hm
        exact x_join (e' := [(4, .bool (x162))]) ⟨rfl, trivial⟩ (.cons _ (.cons _ (.cons _ (.refl _)))) ⟨rfl, rfl, (hle152.trans hle157)⟩
   ·
    rintro b124 _ _ ⟨rfl, rfl, hle125⟩
    have hm := hk127
    refine c_ret ?_
    obtain rfl := some1 hm
    exact retM (rs := [.tmp 4]) [.bool (x126)] hle125 (by decide) rfl ⟨rfl, trivial⟩ rfl (.refl _) ⟨rfl, rfl⟩

set_option maxRecDepth 20000 in
theorem cLineMeet_1_1 (b : Base) (R : Hp) (s2 : ApiNeed) (x3 : Int) (x4 : Int) (x5 : Int) (x6 : Int) (g1 : Nat) (x10 : Bool) (hm : mLineMeet_1_1 s2 x3 x4 x5 x6 = some x10) :
    CallsG Tryz.prog 32 [.agg #[.int .i64 (s2.Kind), .int .i64 (s2.Place), .int .i64 (s2.Position), .int .i64 (s2.At)], .pointer (some ⟨g1, 0, none⟩)] b ((g1, Cl 42 [.int .i64 (x3), .int .i64 (x4), .int .i64 (x5), .int .i64 (x6)]) :: R) (fun v b' hp' => .bool (x10) = v ∧ (g1, Cl 42 [.int .i64 (x3), .int .i64 (x4), .int .i64 (x5), .int .i64 (x6)]) :: R = hp') := by
  refine fn_enterG 7 Tryz.func32 rfl Tryz.ntmps32 rfl ?_
  unfold mLineMeet_1_1 at hm
  refine c_sr ?_
  refine t_do rfl (u_box _ rfl rfl) ?_
  rintro _ _ ⟨g11, rfl, rfl⟩
  refine t_as rfl rfl ?_
  refine t_ne ?_
  refine c_sr ?_
  refine t_st rfl (st_loadD (vs := [_, _, _, _]) 1 4 rfl agg42 rfl rfl rfl) ?_
  refine t_st rfl (st_loadD (vs := [_, _, _, _]) 0 4 rfl agg42 rfl rfl rfl) ?_
  obtain ⟨x12, hcl13, hm⟩ := bindS hm
  refine t_do rfl (u_callW0 _ call33 rfl (fun w ho => cLineMeets _ [] (⟨x3, x4, x5, x6⟩ : ApiNeed) s2 x12 hcl13) (fun _ _ _ h => h.2.symm)) ?_
  rintro _ _ ⟨⟨_, rfl, _⟩, rfl⟩
  refine t_as rfl rfl ?_
  refine t_ne ?_
  refine c_ret ?_
  obtain rfl := some1 hm
  refine x_pullb 1 rfl ?_
  exact retM (rs := [.tmp 3]) [.bool (x12)] (Base.Le.refl _) (by decide) rfl ⟨rfl, trivial⟩ rfl (.cons_cons _ (.cons _ (.refl _))) ⟨rfl, rfl⟩

set_option maxRecDepth 20000 in
theorem cSlicesIndexFunc_5 (b : Base) (R : Hp) (l5 : (List ApiNeed)) (x6 : Int) (x7 : Int) (x8 : Int) (x9 : Int) (g1 : Nat) (A2 : Option Addr) (c3 : Nat) (h4 : FZ rApiNeed b.w A2 c3 l5) (x50 : Int) (hm : mSlicesIndexFunc_5 l5 x6 x7 x8 x9 = some x50) :
    CallsG Tryz.prog 52 [.slice A2 (l5).length c3, .func (.func 32) #[] #[.pointer (some ⟨g1, 0, none⟩)]] b ((g1, Cl 42 [.int .i64 (x6), .int .i64 (x7), .int .i64 (x8), .int .i64 (x9)]) :: R) (fun v b' hp' => .int .i64 (x50) = v ∧ (g1, Cl 42 [.int .i64 (x6), .int .i64 (x7), .int .i64 (x8), .int .i64 (x9)]) :: R = hp') := by
  refine fn_enterG 19 Tryz.func52 rfl Tryz.ntmps52 rfl ?_
  unfold mSlicesIndexFunc_5 at hm
  refine c_sr ?_
  refine t_as rfl rfl ?_
  refine t_ne ?_
  refine c_seq ?_
  refine c_sr ?_
  refine t_mv rfl rfl ?_
  refine t_st rfl (st_len rfl sl38) ?_
  refine t_mv rfl rfl ?_
  refine t_ne ?_
  refine c_block ?_
  have hb52 : l5.length ≤ 9223372036854775807 := (FZ.bd h4)
  obtain ⟨t71, hl72, hk73⟩ := bindS hm
  refine c_forM (fun k70 => fun _ => fun b68 e' hp' => [(0, .slice A2 (l5).length c3), (1, .func (.func 32) #[] #[.pointer (some ⟨g1, 0, none⟩)]), (7, .int .i64 ((l5.length : Int))), (8, .int .i64 ((k70 : Int)))] = e' ∧ (g1, Cl 42 [.int .i64 (x6), .int .i64 (x7), .int .i64 (x8), .int .i64 (x9)]) :: R = hp' ∧ b.Le b68) hl72 (e' := [(0, .slice A2 (l5).length c3), (1, .func (.func 32) #[] #[.pointer (some ⟨g1, 0, none⟩)]), (7, .int .i64 ((l5.length : Int))), (8, .int .i64 0)]) ⟨rfl, rfl, rfl, rfl, trivial⟩ (.refl _) ⟨rfl, rfl, (Base.Le.refl _)⟩ ?_ ?_
  ·
   rintro k70 _ b68 _ _ oL51 hknL51 ⟨rfl, rfl, hle69⟩ hstepL51 houtL51
   unfold mSlicesIndexFunc_5_L51 at hstepL51
   have hm := hstepL51
   refine c_sr ?_
   refine t_st rfl (st_lss_t rfl rfl (by omega)) ?_
   refine t_ne ?_
   refine c_seq ?_
   refine c_cond_t rfl ?_
   refine c_skip ?_
   refine x_then_normal ?_
   refine c_seq ?_
   refine c_block ?_
   refine c_sr ?_
   refine t_mv rfl rfl ?_
   refine t_as rfl rfl ?_
   refine t_ne ?_
   refine c_sr ?_
   refine t_mv rfl rfl ?_
   refine t_mv rfl rfl ?_
   refine t_mv rfl rfl ?_
   obtain ⟨x74, h75, hm⟩ := bindS hm
   obtain ⟨j76, hj77, hx78⟩ := idx_some h75
   obtain ⟨cs79, hr80, hcs81, hA82, hlt83⟩ := FZ.get (sz := 4) rfl (by decide) (h4.le hle69) hx78
   obtain ⟨_, _, rfl, rfl, ⟨_, _, rfl, rfl, ⟨_, _, rfl, rfl, rfl⟩⟩⟩ := hr80
   refine t_st rfl (st_index_old j76 rfl rfl hj77 hlt83 hA82 sl38) ?_
   refine t_st rfl (st_loadN_old (vs := [.int .i64 (x74.Kind), .int .i64 (x74.Place), .int .i64 (x74.Position), .int .i64 (x74.At)]) 4 rfl agg42 hA82 rfl (fun j u hu => hcs81 j u hu)) ?_
   obtain ⟨x84, hcl85, hm⟩ := bindS hm
   refine t_callvG #[] #[.pointer (some ⟨g1, 0, none⟩)] [.agg #[.int .i64 (x74.Kind), .int .i64 (x74.Place), .int .i64 (x74.Position), .int .i64 (x74.At)]] rfl rfl call32 rfl (cLineMeet_1_1 _ _ x74 x6 x7 x8 x9 g1 x84 hcl85) ?_
   rintro _ b86 _ hle87 ⟨rfl, rfl⟩
   refine t_ne ?_
   refine c_cond _ rfl (fun hc88 => ?_) (fun hc88 => ?_)
   ·
    rw [if_pos hc88] at hm
    refine c_sr ?_
    refine t_mv rfl rfl ?_
    refine t_as rfl rfl ?_
    refine t_ne ?_
    refine c_ret ?_
    refine x_block_ret ?_
    refine x_then_ret ?_
    refine x_then_ret ?_
    refine x_block_ret ?_
    refine x_then_ret ?_
    have hq89 := houtL51 _ (Option.some.inj hm).symm
    rw [hq89] at hk73
    have hm := elimR hk73
    obtain rfl := some1 hm
    exact retM (rs := [.tmp 4]) [.int .i64 ((k70 : Int))] (hle69.trans hle87) (by decide) rfl ⟨rfl, trivial⟩ rfl (.refl _) ⟨rfl, rfl⟩
   ·
    rw [if_neg (fun hh => Bool.noConfusion (hh.symm.trans hc88))] at hm
    refine c_skip ?_
    refine x_block_normal ?_
    refine x_then_normal ?_
    refine c_region ?_
    refine t_st rfl (st_add rfl rfl (by omega)) ?_
    refine t_mv rfl rfl ?_
    refine t_nil ?_
    exact x_againM () (Option.some.inj hm).symm (e' := [(0, .slice A2 (l5).length c3), (1, .func (.func 32) #[] #[.pointer (some ⟨g1, 0, none⟩)]), (7, .int .i64 ((l5.length : Int))), (8, .int .i64 ((k70 : Int) + 1))]) ⟨rfl, rfl, rfl, rfl, trivial⟩ (.refl _) ⟨rfl, rfl, ((hle69.trans hle87))⟩
  ·
   rintro _ b68 _ _ ⟨rfl, rfl, hle69⟩ hq90
   rw [hq90] at hk73
   have hm := elimL hk73
   refine c_sr ?_
   refine t_st rfl (st_lss_f rfl rfl (by omega)) ?_
   refine t_ne ?_
   refine c_seq ?_
   refine c_cond_f rfl ?_
   refine c_exit ?_
   refine x_then_exit ?_
   refine x_then_exit ?_
   refine x_block_out ?_
   refine x_then_normal ?_
   refine c_sr ?_
   refine t_as rfl rfl ?_
   refine t_ne ?_
   refine c_ret ?_
   obtain rfl := some1 hm
   exact retM (rs := [.tmp 4]) [.int .i64 ((-1))] hle69 (by decide) rfl ⟨rfl, trivial⟩ rfl (.refl _) ⟨rfl, rfl⟩

set_option maxRecDepth 20000 in
theorem cSlicesContainsFunc_5 (b : Base) (R : Hp) (l5 : (List ApiNeed)) (x6 : Int) (x7 : Int) (x8 : Int) (x9 : Int) (g1 : Nat) (A2 : Option Addr) (c3 : Nat) (h4 : FZ rApiNeed b.w A2 c3 l5) (x14 : Bool) (hm : mSlicesContainsFunc_5 l5 x6 x7 x8 x9 = some x14) :
    CallsG Tryz.prog 30 [.slice A2 (l5).length c3, .func (.func 32) #[] #[.pointer (some ⟨g1, 0, none⟩)]] b ((g1, Cl 42 [.int .i64 (x6), .int .i64 (x7), .int .i64 (x8), .int .i64 (x9)]) :: R) (fun v b' hp' => .bool (x14) = v ∧ (g1, Cl 42 [.int .i64 (x6), .int .i64 (x7), .int .i64 (x8), .int .i64 (x9)]) :: R = hp') := by
  refine fn_enterG 9 Tryz.func30 rfl Tryz.ntmps30 rfl ?_
  unfold mSlicesContainsFunc_5 at hm
  refine c_sr ?_
  refine t_as rfl rfl ?_
  refine t_ne ?_
  refine c_sr ?_
  refine t_mv rfl rfl ?_
  refine t_mv rfl rfl ?_
  obtain ⟨x15, hcl16, hm⟩ := bindS hm
  refine t_callG _ rfl call52 rfl (cSlicesIndexFunc_5 _ _ l5 x6 x7 x8 x9 g1 A2 c3 h4 x15 hcl16) ?_
  rintro _ b17 _ hle18 ⟨rfl, rfl⟩
  refine t_st rfl (st_geq rfl rfl) ?_
  refine t_as rfl rfl ?_
  refine t_ne ?_
  refine c_ret ?_
  obtain rfl := some1 hm
  exact retM (rs := [.tmp 4]) [.bool (decide (0 ≤ x15))] hle18 (by decide) rfl ⟨rfl, trivial⟩ rfl (.refl _) ⟨rfl, rfl⟩

set_option maxRecDepth 20000 in
theorem cLineMeet_1 (b : Base) (R : Hp) (s2 : ApiNeed) (l6 : (List ApiNeed)) (g1 : Nat) (A3 : Option Addr) (c4 : Nat) (h5 : FZ rApiNeed b.w A3 c4 l6) (x12 : Bool) (hm : mLineMeet_1 s2 l6 = some x12) :
    CallsG Tryz.prog 31 [.agg #[.int .i64 (s2.Kind), .int .i64 (s2.Place), .int .i64 (s2.Position), .int .i64 (s2.At)], .pointer (some ⟨g1, 0, none⟩)] b ((g1, Cl 38 [.slice A3 (l6).length c4]) :: R) (fun v b' hp' => .bool (x12) = v ∧ (g1, Cl 38 [.slice A3 (l6).length c4]) :: R = hp') := by
  refine fn_enterG 7 Tryz.func31 rfl Tryz.ntmps31 rfl ?_
  unfold mLineMeet_1 at hm
  refine c_sr ?_
  refine t_do rfl (u_box _ rfl rfl) ?_
  rintro _ _ ⟨g13, rfl, rfl⟩
  refine t_as rfl rfl ?_
  refine t_ne ?_
  refine c_sr ?_
  refine t_st rfl (st_load 1 rfl one38 rfl rfl) ?_
  refine t_st rfl (st_func _ _ rfl rfl) ?_
  obtain ⟨x14, hcl15, hm⟩ := bindS hm
  refine t_callG _ rfl call30 rfl (cSlicesContainsFunc_5 _ _ l6 s2.Kind s2.Place s2.Position s2.At g13 A3 c4 h5 x14 hcl15) ?_
  rintro _ b16 _ hle17 ⟨rfl, rfl⟩
  refine t_as rfl rfl ?_
  refine t_ne ?_
  refine c_ret ?_
  obtain rfl := some1 hm
  refine x_pullb 1 rfl ?_
  exact retM (rs := [.tmp 3]) [.bool (x14)] hle17 (by decide) rfl ⟨rfl, trivial⟩ rfl (.cons_cons _ (.cons _ (.refl _))) ⟨rfl, rfl⟩

set_option maxRecDepth 20000 in
theorem cSlicesIndexFunc_4 (b : Base) (R : Hp) (l5 : (List ApiNeed)) (l9 : (List ApiNeed)) (g1 : Nat) (A2 : Option Addr) (c3 : Nat) (A6 : Option Addr) (c7 : Nat) (h4 : FZ rApiNeed b.w A2 c3 l5) (h8 : FZ rApiNeed b.w A6 c7 l9) (x50 : Int) (hm : mSlicesIndexFunc_4 l5 l9 = some x50) :
    CallsG Tryz.prog 52 [.slice A2 (l5).length c3, .func (.func 31) #[] #[.pointer (some ⟨g1, 0, none⟩)]] b ((g1, Cl 38 [.slice A6 (l9).length c7]) :: R) (fun v b' hp' => .int .i64 (x50) = v ∧ (g1, Cl 38 [.slice A6 (l9).length c7]) :: R = hp') := by
  refine fn_enterG 19 Tryz.func52 rfl Tryz.ntmps52 rfl ?_
  unfold mSlicesIndexFunc_4 at hm
  refine c_sr ?_
  refine t_as rfl rfl ?_
  refine t_ne ?_
  refine c_seq ?_
  refine c_sr ?_
  refine t_mv rfl rfl ?_
  refine t_st rfl (st_len rfl sl38) ?_
  refine t_mv rfl rfl ?_
  refine t_ne ?_
  refine c_block ?_
  have hb52 : l5.length ≤ 9223372036854775807 := (FZ.bd h4)
  obtain ⟨t71, hl72, hk73⟩ := bindS hm
  refine c_forM (fun k70 => fun _ => fun b68 e' hp' => [(0, .slice A2 (l5).length c3), (1, .func (.func 31) #[] #[.pointer (some ⟨g1, 0, none⟩)]), (7, .int .i64 ((l5.length : Int))), (8, .int .i64 ((k70 : Int)))] = e' ∧ (g1, Cl 38 [.slice A6 (l9).length c7]) :: R = hp' ∧ b.Le b68) hl72 (e' := [(0, .slice A2 (l5).length c3), (1, .func (.func 31) #[] #[.pointer (some ⟨g1, 0, none⟩)]), (7, .int .i64 ((l5.length : Int))), (8, .int .i64 0)]) ⟨rfl, rfl, rfl, rfl, trivial⟩ (.refl _) ⟨rfl, rfl, (Base.Le.refl _)⟩ ?_ ?_
  ·
   rintro k70 _ b68 _ _ oL51 hknL51 ⟨rfl, rfl, hle69⟩ hstepL51 houtL51
   unfold mSlicesIndexFunc_4_L51 at hstepL51
   have hm := hstepL51
   refine c_sr ?_
   refine t_st rfl (st_lss_t rfl rfl (by omega)) ?_
   refine t_ne ?_
   refine c_seq ?_
   refine c_cond_t rfl ?_
   refine c_skip ?_
   refine x_then_normal ?_
   refine c_seq ?_
   refine c_block ?_
   refine c_sr ?_
   refine t_mv rfl rfl ?_
   refine t_as rfl rfl ?_
   refine t_ne ?_
   refine c_sr ?_
   refine t_mv rfl rfl ?_
   refine t_mv rfl rfl ?_
   refine t_mv rfl rfl ?_
   obtain ⟨x74, h75, hm⟩ := bindS hm
   obtain ⟨j76, hj77, hx78⟩ := idx_some h75
   obtain ⟨cs79, hr80, hcs81, hA82, hlt83⟩ := FZ.get (sz := 4) rfl (by decide) (h4.le hle69) hx78
   obtain ⟨_, _, rfl, rfl, ⟨_, _, rfl, rfl, ⟨_, _, rfl, rfl, rfl⟩⟩⟩ := hr80
   refine t_st rfl (st_index_old j76 rfl rfl hj77 hlt83 hA82 sl38) ?_
   refine t_st rfl (st_loadN_old (vs := [.int .i64 (x74.Kind), .int .i64 (x74.Place), .int .i64 (x74.Position), .int .i64 (x74.At)]) 4 rfl agg42 hA82 rfl (fun j u hu => hcs81 j u hu)) ?_
   obtain ⟨x84, hcl85, hm⟩ := bindS hm
   refine t_callvG #[] #[.pointer (some ⟨g1, 0, none⟩)] [.agg #[.int .i64 (x74.Kind), .int .i64 (x74.Place), .int .i64 (x74.Position), .int .i64 (x74.At)]] rfl rfl call31 rfl (cLineMeet_1 _ _ x74 l9 g1 A6 c7 (h8.le hle69) x84 hcl85) ?_
   rintro _ b86 _ hle87 ⟨rfl, rfl⟩
   refine t_ne ?_
   refine c_cond _ rfl (fun hc88 => ?_) (fun hc88 => ?_)
   ·
    rw [if_pos hc88] at hm
    refine c_sr ?_
    refine t_mv rfl rfl ?_
    refine t_as rfl rfl ?_
    refine t_ne ?_
    refine c_ret ?_
    refine x_block_ret ?_
    refine x_then_ret ?_
    refine x_then_ret ?_
    refine x_block_ret ?_
    refine x_then_ret ?_
    have hq89 := houtL51 _ (Option.some.inj hm).symm
    rw [hq89] at hk73
    have hm := elimR hk73
    obtain rfl := some1 hm
    exact retM (rs := [.tmp 4]) [.int .i64 ((k70 : Int))] (hle69.trans hle87) (by decide) rfl ⟨rfl, trivial⟩ rfl (.refl _) ⟨rfl, rfl⟩
   ·
    rw [if_neg (fun hh => Bool.noConfusion (hh.symm.trans hc88))] at hm
    refine c_skip ?_
    refine x_block_normal ?_
    refine x_then_normal ?_
    refine c_region ?_
    refine t_st rfl (st_add rfl rfl (by omega)) ?_
    refine t_mv rfl rfl ?_
    refine t_nil ?_
    exact x_againM () (Option.some.inj hm).symm (e' := [(0, .slice A2 (l5).length c3), (1, .func (.func 31) #[] #[.pointer (some ⟨g1, 0, none⟩)]), (7, .int .i64 ((l5.length : Int))), (8, .int .i64 ((k70 : Int) + 1))]) ⟨rfl, rfl, rfl, rfl, trivial⟩ (.refl _) ⟨rfl, rfl, ((hle69.trans hle87))⟩
  ·
   rintro _ b68 _ _ ⟨rfl, rfl, hle69⟩ hq90
   rw [hq90] at hk73
   have hm := elimL hk73
   refine c_sr ?_
   refine t_st rfl (st_lss_f rfl rfl (by omega)) ?_
   refine t_ne ?_
   refine c_seq ?_
   refine c_cond_f rfl ?_
   refine c_exit ?_
   refine x_then_exit ?_
   refine x_then_exit ?_
   refine x_block_out ?_
   refine x_then_normal ?_
   refine c_sr ?_
   refine t_as rfl rfl ?_
   refine t_ne ?_
   refine c_ret ?_
   obtain rfl := some1 hm
   exact retM (rs := [.tmp 4]) [.int .i64 ((-1))] hle69 (by decide) rfl ⟨rfl, trivial⟩ rfl (.refl _) ⟨rfl, rfl⟩

set_option maxRecDepth 20000 in
theorem cSlicesContainsFunc_4 (b : Base) (R : Hp) (l5 : (List ApiNeed)) (l9 : (List ApiNeed)) (g1 : Nat) (A2 : Option Addr) (c3 : Nat) (A6 : Option Addr) (c7 : Nat) (h4 : FZ rApiNeed b.w A2 c3 l5) (h8 : FZ rApiNeed b.w A6 c7 l9) (x14 : Bool) (hm : mSlicesContainsFunc_4 l5 l9 = some x14) :
    CallsG Tryz.prog 30 [.slice A2 (l5).length c3, .func (.func 31) #[] #[.pointer (some ⟨g1, 0, none⟩)]] b ((g1, Cl 38 [.slice A6 (l9).length c7]) :: R) (fun v b' hp' => .bool (x14) = v ∧ (g1, Cl 38 [.slice A6 (l9).length c7]) :: R = hp') := by
  refine fn_enterG 9 Tryz.func30 rfl Tryz.ntmps30 rfl ?_
  unfold mSlicesContainsFunc_4 at hm
  refine c_sr ?_
  refine t_as rfl rfl ?_
  refine t_ne ?_
  refine c_sr ?_
  refine t_mv rfl rfl ?_
  refine t_mv rfl rfl ?_
  obtain ⟨x15, hcl16, hm⟩ := bindS hm
  refine t_callG _ rfl call52 rfl (cSlicesIndexFunc_4 _ _ l5 l9 g1 A2 c3 A6 c7 h4 h8 x15 hcl16) ?_
  rintro _ b17 _ hle18 ⟨rfl, rfl⟩
  refine t_st rfl (st_geq rfl rfl) ?_
  refine t_as rfl rfl ?_
  refine t_ne ?_
  refine c_ret ?_
  obtain rfl := some1 hm
  exact retM (rs := [.tmp 4]) [.bool (decide (0 ≤ x15))] hle18 (by decide) rfl ⟨rfl, trivial⟩ rfl (.refl _) ⟨rfl, rfl⟩

set_option maxRecDepth 20000 in
theorem cLineMeet (b : Base) (R : Hp) (l4 : (List ApiNeed)) (l8 : (List ApiNeed)) (A1 : Option Addr) (c2 : Nat) (A5 : Option Addr) (c6 : Nat) (h3 : FZ rApiNeed b.w A1 c2 l4) (h7 : FZ rApiNeed b.w A5 c6 l8) (x14 : Bool) (hm : mLineMeet l4 l8 = some x14) :
    CallsG Tryz.prog 15 [.slice A1 (l4).length c2, .slice A5 (l8).length c6] b (R) (fun v b' hp' => .bool (x14) = v ∧ R = hp') := by
  refine fn_enterG 8 Tryz.func15 rfl Tryz.ntmps15 rfl ?_
  unfold mLineMeet at hm
  refine c_sr ?_
  refine t_do rfl (u_box _ rfl rfl) ?_
  rintro _ _ ⟨g15, rfl, rfl⟩
  refine t_as rfl rfl ?_
  refine t_ne ?_
  refine c_sr ?_
  refine t_mv rfl rfl ?_
  refine t_st rfl (st_func _ _ rfl rfl) ?_
  obtain ⟨x16, hcl17, hm⟩ := bindS hm
  refine t_callG _ rfl call30 rfl (cSlicesContainsFunc_4 _ _ l4 l8 g15 A1 c2 A5 c6 h3 h7 x16 hcl17) ?_
  rintro _ b18 _ hle19 ⟨rfl, rfl⟩
  refine t_as rfl rfl ?_
  refine t_ne ?_
  refine c_ret ?_
  obtain rfl := some1 hm
  exact retM (rs := [.tmp 4]) [.bool (x16)] hle19 (by decide) rfl ⟨rfl, trivial⟩ rfl (.cons _ (.refl _)) ⟨rfl, rfl⟩

end Go.Proofs.YtcibjjhanafojaaGreatDoor
