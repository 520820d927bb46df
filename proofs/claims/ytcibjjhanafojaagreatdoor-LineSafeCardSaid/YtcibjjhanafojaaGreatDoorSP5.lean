/- Contracts: the code computes its model (part 5). -/
import Derived.Test.YtcibjjhanafojaaGreatDoorSP4
set_option linter.unusedVariables false
set_option linter.unusedSimpArgs false
namespace Go.Proofs.YtcibjjhanafojaaGreatDoor
open Go.RowKit Go.Fp

set_option maxRecDepth 20000 in
theorem cLineNeeds (b : Base) (R : Hp) (s1 : ApiNet) (s17 : ApiRoute) (A2 : Option Addr) (c3 : Nat) (A5 : Option Addr) (c6 : Nat) (A8 : Option Addr) (c9 : Nat) (A11 : Option Addr) (c12 : Nat) (A14 : Option Addr) (c15 : Nat) (A18 : Option Addr) (c19 : Nat) (h4 : FZ RT.str b.w A2 c3 s1.Stations) (h7 : FZ rApiSection b.w A5 c6 s1.Sections) (h10 : FZ rApiLink b.w A8 c9 s1.Links) (h13 : FZ rApiSignal b.w A11 c12 s1.Signals) (h16 : FZ rApiGate b.w A14 c15 s1.Gates) (h20 : FZ rApiStep b.w A18 c19 s17.Steps) (l483 : (List ApiNeed)) (hm : mLineNeeds s1 s17 = some l483) :
    CallsG Tryz.prog 16 [.agg #[.slice A2 (s1.Stations).length c3, .slice A5 (s1.Sections).length c6, .slice A8 (s1.Links).length c9, .slice A11 (s1.Signals).length c12, .slice A14 (s1.Gates).length c15], .agg #[.int .i64 (s17.From), .int .i64 (s17.To), .slice A18 (s17.Steps).length c19]] b (R) (fun v b' hp' => ∃ (A480 : Option Addr), ∃ (c481 : Nat), ∃ (hs479 : Hp), .slice A480 (l483).length c481 = v ∧ (hs479 ++ R) = hp' ∧ OS 42 (OT.fr rApiNeed) b'.w (.slice A480 l483.length c481) l483 hs479 ∧ (A480 = none ↔ l483 = [])) := by
  refine fn_enterG 74 Tryz.func16 rfl Tryz.ntmps16 rfl ?_
  unfold mLineNeeds at hm
  refine c_sr ?_
  refine t_do rfl (u_box _ rfl rfl) ?_
  rintro _ _ ⟨g485, rfl, rfl⟩
  refine t_do rfl (u_box _ rfl rfl) ?_
  rintro _ _ ⟨g486, rfl, rfl⟩
  refine t_as rfl rfl ?_
  refine t_ne ?_
  obtain ⟨⟨l523, l524⟩, hj525, hk525⟩ := bindS hm
  refine c_join (fun b511 e' hp' => ∃ (g522 : Nat), ∃ (A515 : Option Addr), ∃ (c516 : Nat), ∃ (hs514 : Hp), ∃ (g520 : Nat), ∃ (hs519 : Hp), [(2, .pointer (some ⟨g485, 0, none⟩)), (3, .pointer (some ⟨g486, 0, none⟩)), (5, .pointer (some ⟨g522, 0, none⟩))] = e' ∧ (g485, Cl 28 [.slice A2 (s1.Stations).length c3, .slice A5 (s1.Sections).length c6, .slice A8 (s1.Links).length c9, .slice A11 (s1.Signals).length c12, .slice A14 (s1.Gates).length c15]) :: (g486, Cl 54 [.int .i64 (s17.From), .int .i64 (s17.To), .slice A18 (s17.Steps).length c19]) :: (g522, Cl 86 [.slice A2 (s1.Stations).length c3, .slice A5 (s1.Sections).length c6, .slice A8 (s1.Links).length c9, .slice A11 (s1.Signals).length c12, .slice A14 (s1.Gates).length c15, .int .i64 (s17.From), .int .i64 (s17.To), .slice A18 (s17.Steps).length c19, .slice A515 (l523).length c516, .slice none 0 0, .map (some g520)]) :: (hs514 ++ (hs519 ++ R)) = hp' ∧ b.Le b511 ∧ OS 56 (OT.fr rApiStep) b511.w (.slice A515 l523.length c516) l523 hs514 ∧ OM rApiNeed (OT.fr RT.bool) true false b511.w g520 l524 hs519) ?_ ?_
  ·
   have hm := hj525
   obtain ⟨l538, hcl539, hm⟩ := bindS hm
   refine D_drawI mixed (.refl _) ?_
   refine E_st 0 rfl (st_loadD (vs := [_, _, _, _, _]) 1 5 rfl agg28 rfl rfl rfl) ?_
   refine E_st 1 rfl (st_loadD (vs := [_, _, _]) 0 3 rfl agg54 rfl rfl rfl) ?_
   refine E_st 2 rfl (st_loadD (vs := [_, _, _, _, _]) 1 5 rfl agg28 rfl rfl rfl) ?_
   refine E_st 3 rfl (st_loadD (vs := [_, _, _]) 0 3 rfl agg54 rfl rfl rfl) ?_
   refine E_out ?_
   refine D_all [4, 5] (by kernel_rfl) rfl ?_
   refine R_callGl (Base.Le.refl _) rfl rfl _ call34 rfl (cLineOverlap _ _ s1 s17 A2 c3 A5 c6 A8 c9 A11 c12 A14 c15 A18 c19 h4 h7 h10 h13 h16 h20 l538 hcl539) ?_ ?_
   ·
    rintro _ b540 _ hle541 ⟨A542, c543, hs544, rfl, rfl, h545⟩
    refine ⟨.inr (sub_skip hs544 (.refl _)), ?_⟩
    refine d_in1 [] [_, _] hs544 R rfl ?_
    refine D_all [5] (by kernel_rfl) rfl ?_
    refine R_do hle541 rfl rfl (u_mmap rApiNeed (OT.fr RT.bool) true false [_, _] (hs544 ++ R) rfl) ?_ ?_
    ·
     rintro _ _ ⟨g546, hs547, rfl, rfl, h548⟩
     refine ⟨.inr (.cons_cons _ (.cons_cons _ (sub_skip hs547 (sub_skip hs544 (.refl _))))), ?_⟩
     refine D_all [6] (by kernel_rfl) rfl ?_
     refine R_do hle541 rfl rfl (Stable.does (st_build (v := .agg #[.slice A2 (s1.Stations).length c3, .slice A5 (s1.Sections).length c6, .slice A8 (s1.Links).length c9, .slice A11 (s1.Signals).length c12, .slice A14 (s1.Gates).length c15, .int .i64 (s17.From), .int .i64 (s17.To), .slice A18 (s17.Steps).length c19, .slice A542 (l538).length c543, .slice none 0 0, .map (some g546)]) [(0, .agg #[.slice A2 (s1.Stations).length c3, .slice A5 (s1.Sections).length c6, .slice A8 (s1.Links).length c9, .slice A11 (s1.Signals).length c12, .slice A14 (s1.Gates).length c15]), (1, .agg #[.int .i64 (s17.From), .int .i64 (s17.To), .slice A18 (s17.Steps).length c19]), (2, .slice A542 (l538).length c543), (4, .map (some g546))] rfl (fun _ => by kernel_rfl))) ?_ ?_
     ·
      rintro _ _ ⟨rfl, rfl⟩
      refine ⟨.inr (.cons_cons _ (.cons_cons _ (sub_skip hs547 (sub_skip hs544 (.refl _))))), ?_⟩
      refine D_all [7] (by kernel_rfl) rfl ?_
      refine R_do hle541 rfl rfl (u_box _ rfl rfl) ?_ ?_
      ·
       rintro _ _ ⟨g549, rfl, rfl⟩
       refine ⟨.inr (.cons _ (.cons_cons _ (.cons_cons _ (sub_skip hs547 (sub_skip hs544 (.refl _)))))), ?_⟩
       refine D_st hle541 8 rfl (by kernel_rfl) (by kernel_rfl) (by kernel_rfl) rfl (st_assign rfl) (.cons _ (.cons_cons _ (.cons_cons _ (sub_skip hs547 (sub_skip hs544 (.refl _)))))) ?_
       refine D_done (by kernel_rfl) ?_
       obtain ⟨rfl, rfl⟩ := some2 hm
       refine x_pullb 1 rfl ?_
       refine x_pullb 2 rfl ?_
       refine x_front2 [_, _, _] hs547 hs544 R rfl ?_
       exact x_join (e' := [(2, .pointer (some ⟨g485, 0, none⟩)), (3, .pointer (some ⟨g486, 0, none⟩)), (5, .pointer (some ⟨g549, 0, none⟩))]) ⟨rfl, rfl, rfl, trivial⟩ (.refl _) ⟨g549, A542, c543, hs544, g546, hs547, rfl, rfl, hle541, h545, h548⟩
      exact R_nil
     exact R_nil
    exact R_nil
   refine R_do (Base.Le.refl _) rfl rfl (u_mmap rApiNeed (OT.fr RT.bool) true false [_, _] R rfl) ?_ ?_
   ·
    rintro _ _ ⟨g546, hs547, rfl, rfl, h548⟩
    refine ⟨.inr (.cons_cons _ (.cons_cons _ (sub_skip hs547 (.refl _)))), ?_⟩
    refine D_all [4] (by kernel_rfl) rfl ?_
    refine R_callGl (Base.Le.refl _) rfl rfl _ call34 rfl (cLineOverlap _ _ s1 s17 A2 c3 A5 c6 A8 c9 A11 c12 A14 c15 A18 c19 h4 h7 h10 h13 h16 h20 l538 hcl539) ?_ ?_
    ·
     rintro _ b540 _ hle541 ⟨A542, c543, hs544, rfl, rfl, h545⟩
     refine ⟨.inr (sub_skip hs544 (.cons_cons _ (.cons_cons _ (sub_skip hs547 (.refl _))))), ?_⟩
     refine d_in1 [] [_, _] hs544 (hs547 ++ R) rfl ?_
     refine D_all [6] (by kernel_rfl) rfl ?_
     refine R_do hle541 rfl rfl (Stable.does (st_build (v := .agg #[.slice A2 (s1.Stations).length c3, .slice A5 (s1.Sections).length c6, .slice A8 (s1.Links).length c9, .slice A11 (s1.Signals).length c12, .slice A14 (s1.Gates).length c15, .int .i64 (s17.From), .int .i64 (s17.To), .slice A18 (s17.Steps).length c19, .slice A542 (l538).length c543, .slice none 0 0, .map (some g546)]) [(0, .agg #[.slice A2 (s1.Stations).length c3, .slice A5 (s1.Sections).length c6, .slice A8 (s1.Links).length c9, .slice A11 (s1.Signals).length c12, .slice A14 (s1.Gates).length c15]), (1, .agg #[.int .i64 (s17.From), .int .i64 (s17.To), .slice A18 (s17.Steps).length c19]), (2, .slice A542 (l538).length c543), (4, .map (some g546))] rfl (fun _ => by kernel_rfl))) ?_ ?_
     ·
      rintro _ _ ⟨rfl, rfl⟩
      refine ⟨.inr (.cons_cons _ (.cons_cons _ (sub_skip hs544 (sub_skip hs547 (.refl _))))), ?_⟩
      refine D_all [7] (by kernel_rfl) rfl ?_
      refine R_do hle541 rfl rfl (u_box _ rfl rfl) ?_ ?_
      ·
       rintro _ _ ⟨g549, rfl, rfl⟩
       refine ⟨.inr (.cons _ (.cons_cons _ (.cons_cons _ (sub_skip hs544 (sub_skip hs547 (.refl _)))))), ?_⟩
       refine D_st hle541 8 rfl (by kernel_rfl) (by kernel_rfl) (by kernel_rfl) rfl (st_assign rfl) (.cons _ (.cons_cons _ (.cons_cons _ (sub_skip hs544 (sub_skip hs547 (.refl _)))))) ?_
       refine D_done (by kernel_rfl) ?_
       obtain ⟨rfl, rfl⟩ := some2 hm
       refine x_pullb 1 rfl ?_
       refine x_pullb 2 rfl ?_
       refine x_front2 [_, _, _] hs544 hs547 R rfl ?_
       refine x_front2 [_, _, _] hs547 hs544 R rfl ?_
       exact x_join (e' := [(2, .pointer (some ⟨g485, 0, none⟩)), (3, .pointer (some ⟨g486, 0, none⟩)), (5, .pointer (some ⟨g549, 0, none⟩))]) ⟨rfl, rfl, rfl, trivial⟩ (.refl _) ⟨g549, A542, c543, hs544, g546, hs547, rfl, rfl, hle541, h545, (h548.le hle541)⟩
      exact R_nil
     exact R_nil
    exact R_nil
   exact R_nil
  ·
   rintro b511 _ _ ⟨g522, A515, c516, hs514, g520, hs519, rfl, rfl, hle512, h517, h521⟩
   have hm := (unc2E hk525)
   refine c_seq ?_
   refine c_sr ?_
   refine t_st rfl (st_field rfl fld54_2) ?_
   refine t_st rfl (st_load 1 rfl one52 rfl rfl) ?_
   refine t_st rfl (st_len rfl sl52) ?_
   refine t_mv rfl rfl ?_
   refine t_ne ?_
   refine c_block ?_
   have hb551 : s17.Steps.length ≤ 9223372036854775807 := (FZ.bd (h20.le hle512))
   refine c_pullb 2 rfl ?_
   refine c_pullb 2 rfl ?_
   refine c_pullb 2 rfl ?_
   refine c_front2 [_, _, _] hs514 hs519 R rfl ?_
   refine c_front2 [_, _, _] hs519 hs514 R rfl ?_
   obtain ⟨⟨l651, l653⟩, hl655, hk656⟩ := bindS hm
   refine c_forS (fun k654 => unc2 fun l651 l653 => fun b641 e' hp' => ∃ (A645 : Option Addr), ∃ (c646 : Nat), ∃ (hs644 : Hp), ∃ (hs649 : Hp), [(2, .pointer (some ⟨g485, 0, none⟩)), (3, .pointer (some ⟨g486, 0, none⟩)), (5, .pointer (some ⟨g522, 0, none⟩)), (20, .slice A18 (s17.Steps).length c19), (21, .int .i64 ((s17.Steps.length : Int))), (22, .int .i64 ((k654 : Int)))] = e' ∧ (g485, Cl 28 [.slice A2 (s1.Stations).length c3, .slice A5 (s1.Sections).length c6, .slice A8 (s1.Links).length c9, .slice A11 (s1.Signals).length c12, .slice A14 (s1.Gates).length c15]) :: (g486, Cl 54 [.int .i64 (s17.From), .int .i64 (s17.To), .slice A18 (s17.Steps).length c19]) :: (g522, Cl 86 [.slice A2 (s1.Stations).length c3, .slice A5 (s1.Sections).length c6, .slice A8 (s1.Links).length c9, .slice A11 (s1.Signals).length c12, .slice A14 (s1.Gates).length c15, .int .i64 (s17.From), .int .i64 (s17.To), .slice A18 (s17.Steps).length c19, .slice A515 (l523).length c516, .slice A645 (l651).length c646, .map (some g520)]) :: (hs514 ++ (hs644 ++ (hs649 ++ R))) = hp' ∧ b511.Le b641 ∧ OS 42 (OT.fr rApiNeed) b641.w (.slice A645 l651.length c646) l651 hs644 ∧ (A645 = none ↔ l651 = []) ∧ OM rApiNeed (OT.fr RT.bool) true false b641.w g520 l653 hs649) hl655 (e' := [(2, .pointer (some ⟨g485, 0, none⟩)), (3, .pointer (some ⟨g486, 0, none⟩)), (5, .pointer (some ⟨g522, 0, none⟩)), (20, .slice A18 (s17.Steps).length c19), (21, .int .i64 ((s17.Steps.length : Int))), (22, .int .i64 0)]) ⟨rfl, rfl, rfl, rfl, rfl, rfl, trivial⟩ (.refl _) ⟨none, 0, [], hs519, rfl, rfl, (Base.Le.refl _), OS.nil, ⟨fun _ => rfl, fun _ => rfl⟩, h521⟩ ?_ ?_
   ·
    rintro k654 ⟨l651, l653⟩ b641 _ _ oL550 hknL550 ⟨A645, c646, hs644, hs649, rfl, rfl, hle642, h647, hnz652, h650⟩ hstepL550
    unfold mLineNeeds_L550 at hstepL550
    have hm := (unc2E hstepL550)
    refine c_sr ?_
    refine t_st rfl (st_lss_t rfl rfl (by omega)) ?_
    refine t_ne ?_
    refine c_seq ?_
    refine c_cond_t rfl ?_
    refine c_skip ?_
    refine x_then_normal ?_
    refine c_seq ?_
    refine c_block ?_
    refine c_sr ?_
    refine t_mv rfl rfl ?_
    obtain ⟨x657, h658, hm⟩ := bindS hm
    obtain ⟨j659, hj660, hx661⟩ := idx_some h658
    obtain ⟨cs662, hr663, hcs664, hA665, hlt666⟩ := FZ.get (sz := 3) rfl (by decide) (h20.le (hle512.trans hle642)) hx661
    obtain ⟨_, _, rfl, rfl, ⟨_, _, rfl, rfl, rfl⟩⟩ := hr663
    refine t_st rfl (st_index_old j659 rfl rfl hj660 hlt666 hA665 sl52) ?_
    refine t_st rfl (st_loadN_old (vs := [.int .i64 (x657.Section), .int .i64 (x657.In), .int .i64 (x657.Out)]) 3 rfl agg56 hA665 rfl (fun j u hu => hcs664 j u hu)) ?_
    refine t_do rfl (u_alloc [.int .i64 0, .int .i64 0, .int .i64 0] zero56 rfl) ?_
    rintro _ _ ⟨g667, rfl, rfl⟩
    refine t_as rfl rfl ?_
    refine t_do rfl (u_storeN (vs := [_, _, _]) 0 3 rfl rfl rfl siz56 rfl (mem_c rfl (mem_c rfl (mem_c rfl mem_n))) rfl (by simp)) ?_
    rintro _ _ rfl
    refine t_ne ?_
    obtain ⟨x682, hcl683, hm⟩ := bindS hm
    obtain ⟨⟨l684, l685⟩, hcl686, hm⟩ := bindS hm
    have hm := (unc2E hm)
    refine D_drawI mixed (.cons_cons _ (.cons_cons _ (.cons_cons _ (.cons _ (sub_skip hs514 (sub_skip hs644 (sub_skip hs649 (.refl _)))))))) ?_
    refine E_st 0 rfl (st_move rfl) ?_
    refine E_st 1 rfl (st_field rfl fld56_0) ?_
    refine E_st 2 rfl (st_load 0 rfl one3 rfl rfl) ?_
    refine E_st 3 rfl (st_loadD (vs := [_, _, _, _, _]) 1 5 rfl agg28 rfl rfl rfl) ?_
    refine E_st 4 rfl (st_loadD (vs := [_, _, _]) 0 3 rfl agg56 rfl rfl rfl) ?_
    refine E_st 6 rfl (st_move rfl) ?_
    refine E_out ?_
    refine D_all [5] (by kernel_rfl) rfl ?_
    refine R_do (Base.Le.refl _) rfl rfl (u_callW0 _ call36 rfl (fun w ho => cLinePosition _ [] s1 x657 A2 c3 A5 c6 A8 c9 A11 c12 A14 c15 ((h4.le (hle512.trans hle642)).old ho) ((h7.le (hle512.trans hle642)).old ho) ((h10.le (hle512.trans hle642)).old ho) ((h13.le (hle512.trans hle642)).old ho) ((h16.le (hle512.trans hle642)).old ho) x682 hcl683) (fun _ _ _ h => h.2.symm)) ?_ ?_
    ·
     rintro _ _ ⟨⟨_, rfl, _⟩, rfl⟩
     refine ⟨.inr (.cons_cons _ (.cons_cons _ (.cons_cons _ (.cons _ (sub_skip hs514 (sub_skip hs644 (sub_skip hs649 (.refl _)))))))), ?_⟩
     refine E_in (.cons_cons _ (.cons_cons _ (.cons_cons _ (.cons _ (sub_skip hs514 (sub_skip hs644 (sub_skip hs649 (.refl _)))))))) ?_
     refine E_st 7 rfl (st_build (v := .agg #[.int .i64 (1), .int .i64 (x657.Section), .int .i64 (x682), .int .i64 ((k654 : Int))]) [(0, .int .i64 (1)), (1, .int .i64 (x657.Section)), (2, .int .i64 (x682)), (3, .int .i64 ((k654 : Int)))] rfl (fun _ => by kernel_rfl)) ?_
     refine E_out ?_
     refine d_pullb 3 rfl ?_
     refine d_front3 [_, _, _, _] hs514 hs644 hs649 R rfl ?_
     refine d_front3 [_, _, _, _] hs649 hs514 hs644 R rfl ?_
     refine d_front3 [_, _, _, _] hs644 hs649 hs514 R rfl ?_
     refine d_out3 [_] [_, _, _] hs514 hs644 hs649 R rfl ?_
     refine D_all [8] (by kernel_rfl) rfl ?_
     refine R_callGl (Base.Le.refl _) rfl rfl _ call35 rfl (cLineLookerNeed _ _ (⟨1, x657.Section, x682, (k654 : Int)⟩ : ApiNeed) s1.Stations s1.Sections s1.Links s1.Signals s1.Gates s17.From s17.To s17.Steps l523 l651 l653 g522 A2 c3 A5 c6 A8 c9 A11 c12 A14 c15 A18 c19 A515 c516 hs514 A645 c646 hs644 g520 hs649 (h4.le (hle512.trans hle642)) (h7.le (hle512.trans hle642)) (h10.le (hle512.trans hle642)) (h13.le (hle512.trans hle642)) (h16.le (hle512.trans hle642)) (h20.le (hle512.trans hle642)) (h517.le hle642) h647 hnz652 h650 l684 l685 hcl686) ?_ ?_
     ·
      rintro _ b687 _ hle688 ⟨A689, c690, hs691, hs692, rfl, rfl, h693, h694, h695⟩
      refine ⟨.inr (.cons _ (sub_skip hs514 (sub_skip hs691 (sub_skip hs692 (.refl _))))), ?_⟩
      refine d_in3 [_] [_, _, _] hs514 hs691 hs692 R rfl ?_
      refine D_done (by kernel_rfl) ?_
      refine x_block_normal ?_
      refine x_then_normal ?_
      refine c_region ?_
      refine t_st rfl (st_add rfl rfl (by omega)) ?_
      refine t_mv rfl rfl ?_
      refine t_nil ?_
      refine x_pullb 3 rfl ?_
      refine x_pullb 3 rfl ?_
      refine x_front3 [_, _, _, _] hs514 hs691 hs692 R rfl ?_
      refine x_front3 [_, _, _, _] hs692 hs514 hs691 R rfl ?_
      refine x_front3 [_, _, _, _] hs691 hs692 hs514 R rfl ?_
      obtain rfl := some1 hm
      exact x_againS (e' := [(2, .pointer (some ⟨g485, 0, none⟩)), (3, .pointer (some ⟨g486, 0, none⟩)), (5, .pointer (some ⟨g522, 0, none⟩)), (20, .slice A18 (s17.Steps).length c19), (21, .int .i64 ((s17.Steps.length : Int))), (22, .int .i64 ((k654 : Int) + 1))]) ⟨rfl, rfl, rfl, rfl, rfl, rfl, trivial⟩ (.cons_cons _ (.cons_cons _ (.cons_cons _ (.cons _ (.refl _))))) ⟨A689, c690, hs691, hs692, rfl, rfl, ((hle642.trans hle688)), h693, h694, h695⟩
     exact R_nil
    exact R_nil
   ·
    rintro b641 _ _ ⟨A645, c646, hs644, hs649, rfl, rfl, hle642, h647, hnz652, h650⟩
    have hm := (unc2E hk656)
    refine c_sr ?_
    refine t_st rfl (st_lss_f rfl rfl (by omega)) ?_
    refine t_ne ?_
    refine c_seq ?_
    refine c_cond_f rfl ?_
    refine c_exit ?_
    refine x_then_exit ?_
    refine x_then_exit ?_
    refine x_block_out ?_
    refine x_then_normal ?_
    refine c_seq ?_
    refine c_sr ?_
    refine t_mv rfl rfl ?_
    refine t_st rfl (st_nil rfl) ?_
    refine t_st rfl (st_field rfl fld86_2) ?_
    refine t_st rfl (st_load 2 rfl one52 rfl rfl) ?_
    refine t_st rfl (st_len rfl sl52) ?_
    refine t_mv rfl rfl ?_
    refine t_ne ?_
    refine c_block ?_
    have hb697 : l523.length ≤ 9223372036854775807 := (OS.len h517)
    refine c_pullb 2 rfl ?_
    refine c_pullb 2 rfl ?_
    refine c_pullb 2 rfl ?_
    refine c_front3 [_, _, _] hs514 hs644 hs649 R rfl ?_
    refine c_front3 [_, _, _] hs649 hs514 hs644 R rfl ?_
    refine c_front3 [_, _, _] hs644 hs649 hs514 R rfl ?_
    obtain ⟨⟨l809, l811⟩, hl813, hk814⟩ := bindS hm
    refine c_forS (fun k812 => unc2 fun l809 l811 => fun b799 e' hp' => ∃ (A803 : Option Addr), ∃ (c804 : Nat), ∃ (hs802 : Hp), ∃ (hs807 : Hp), [(2, .pointer (some ⟨g485, 0, none⟩)), (3, .pointer (some ⟨g486, 0, none⟩)), (5, .pointer (some ⟨g522, 0, none⟩)), (40, .slice A515 (l523).length c516), (41, .int .i64 ((l523.length : Int))), (42, .int .i64 ((k812 : Int)))] = e' ∧ (g485, Cl 28 [.slice A2 (s1.Stations).length c3, .slice A5 (s1.Sections).length c6, .slice A8 (s1.Links).length c9, .slice A11 (s1.Signals).length c12, .slice A14 (s1.Gates).length c15]) :: (g486, Cl 54 [.int .i64 (s17.From), .int .i64 (s17.To), .slice A18 (s17.Steps).length c19]) :: (g522, Cl 86 [.slice A2 (s1.Stations).length c3, .slice A5 (s1.Sections).length c6, .slice A8 (s1.Links).length c9, .slice A11 (s1.Signals).length c12, .slice A14 (s1.Gates).length c15, .int .i64 (s17.From), .int .i64 (s17.To), .slice A18 (s17.Steps).length c19, .slice A515 (l523).length c516, .slice A803 (l809).length c804, .map (some g520)]) :: (hs514 ++ (hs802 ++ (hs807 ++ R))) = hp' ∧ b641.Le b799 ∧ OS 42 (OT.fr rApiNeed) b799.w (.slice A803 l809.length c804) l809 hs802 ∧ (A803 = none ↔ l809 = []) ∧ OM rApiNeed (OT.fr RT.bool) true false b799.w g520 l811 hs807) hl813 (e' := [(2, .pointer (some ⟨g485, 0, none⟩)), (3, .pointer (some ⟨g486, 0, none⟩)), (5, .pointer (some ⟨g522, 0, none⟩)), (40, .slice A515 (l523).length c516), (41, .int .i64 ((l523.length : Int))), (42, .int .i64 0)]) ⟨rfl, rfl, rfl, rfl, rfl, rfl, trivial⟩ (.refl _) ⟨A645, c646, hs644, hs649, rfl, rfl, (Base.Le.refl _), h647, hnz652, h650⟩ ?_ ?_
    ·
     rintro k812 ⟨l809, l811⟩ b799 _ _ oL696 hknL696 ⟨A803, c804, hs802, hs807, rfl, rfl, hle800, h805, hnz810, h808⟩ hstepL696
     unfold mLineNeeds_L696 at hstepL696
     have hm := (unc2E hstepL696)
     refine c_sr ?_
     refine t_st rfl (st_lss_t rfl rfl (by omega)) ?_
     refine t_ne ?_
     refine c_seq ?_
     refine c_cond_t rfl ?_
     refine c_skip ?_
     refine x_then_normal ?_
     refine c_seq ?_
     refine c_block ?_
     refine c_sr ?_
     obtain ⟨x815, h816, hm⟩ := bindS hm
     obtain ⟨j817, hj818, hx819⟩ := idx_some h816
     obtain ⟨cs820, hs825, P826, P827, hq828, hr821, hcs822, hA823, hlt824, hb829, hho830⟩ := OS.get (sz := 3) rfl (by decide) (h517.le (hle642.trans hle800)) hx819
     obtain ⟨⟨_, _, rfl, rfl, ⟨_, _, rfl, rfl, rfl⟩⟩, rfl⟩ := hr821
     refine t_st rfl (st_index_old j817 rfl rfl hj818 hlt824 hA823 sl52) ?_
     refine t_st rfl (st_loadN_rd (vs := [.int .i64 (x815.Section), .int .i64 (x815.In), .int .i64 (x815.Out)]) 3 rfl agg56 hA823 rfl (fun w ho j u hu => hcs822 w _ ho (.cons _ (.cons _ (.cons _ (List.sublist_append_left _ _)))) j u hu)) ?_
     refine t_do rfl (u_alloc [.int .i64 0, .int .i64 0, .int .i64 0] zero56 rfl) ?_
     rintro _ _ ⟨g831, rfl, rfl⟩
     refine t_do rfl (u_storeN (vs := [_, _, _]) 0 3 rfl rfl rfl siz56 rfl (mem_c rfl (mem_c rfl (mem_c rfl mem_n))) rfl (by simp)) ?_
     rintro _ _ rfl
     refine t_ne ?_
     obtain ⟨x846, hcl847, hm⟩ := bindS hm
     obtain ⟨⟨l848, l849⟩, hcl850, hm⟩ := bindS hm
     have hm := (unc2E hm)
     refine D_drawI mixed (.cons_cons _ (.cons_cons _ (.cons_cons _ (.cons _ (sub_skip hs514 (sub_skip hs802 (sub_skip hs807 (.refl _)))))))) ?_
     refine E_st 0 rfl (st_move rfl) ?_
     refine E_st 1 rfl (st_field rfl fld56_0) ?_
     refine E_st 2 rfl (st_load 0 rfl one3 rfl rfl) ?_
     refine E_st 3 rfl (st_loadD (vs := [_, _, _, _, _]) 1 5 rfl agg28 rfl rfl rfl) ?_
     refine E_st 4 rfl (st_loadD (vs := [_, _, _]) 0 3 rfl agg56 rfl rfl rfl) ?_
     refine E_out ?_
     refine D_all [5] (by kernel_rfl) rfl ?_
     refine R_do (Base.Le.refl _) rfl rfl (u_callW0 _ call36 rfl (fun w ho => cLinePosition _ [] s1 x815 A2 c3 A5 c6 A8 c9 A11 c12 A14 c15 ((h4.le (hle512.trans (hle642.trans hle800))).old ho) ((h7.le (hle512.trans (hle642.trans hle800))).old ho) ((h10.le (hle512.trans (hle642.trans hle800))).old ho) ((h13.le (hle512.trans (hle642.trans hle800))).old ho) ((h16.le (hle512.trans (hle642.trans hle800))).old ho) x846 hcl847) (fun _ _ _ h => h.2.symm)) ?_ ?_
     ·
      rintro _ _ ⟨⟨_, rfl, _⟩, rfl⟩
      refine ⟨.inr (.cons_cons _ (.cons_cons _ (.cons_cons _ (.cons _ (sub_skip hs514 (sub_skip hs802 (sub_skip hs807 (.refl _)))))))), ?_⟩
      refine E_in (.cons_cons _ (.cons_cons _ (.cons_cons _ (.cons _ (sub_skip hs514 (sub_skip hs802 (sub_skip hs807 (.refl _)))))))) ?_
      refine E_st 6 rfl (st_build (v := .agg #[.int .i64 (2), .int .i64 (x815.Section), .int .i64 (x846), .int .i64 ((-1))]) [(0, .int .i64 (2)), (1, .int .i64 (x815.Section)), (2, .int .i64 (x846)), (3, .int .i64 ((-1)))] rfl (fun _ => by kernel_rfl)) ?_
      refine E_out ?_
      refine d_pullb 3 rfl ?_
      refine d_front3 [_, _, _, _] hs514 hs802 hs807 R rfl ?_
      refine d_front3 [_, _, _, _] hs807 hs514 hs802 R rfl ?_
      refine d_front3 [_, _, _, _] hs802 hs807 hs514 R rfl ?_
      refine d_out3 [_] [_, _, _] hs514 hs802 hs807 R rfl ?_
      refine D_all [7] (by kernel_rfl) rfl ?_
      refine R_callGl (Base.Le.refl _) rfl rfl _ call35 rfl (cLineLookerNeed _ _ (⟨2, x815.Section, x846, (-1)⟩ : ApiNeed) s1.Stations s1.Sections s1.Links s1.Signals s1.Gates s17.From s17.To s17.Steps l523 l809 l811 g522 A2 c3 A5 c6 A8 c9 A11 c12 A14 c15 A18 c19 A515 c516 hs514 A803 c804 hs802 g520 hs807 (h4.le (hle512.trans (hle642.trans hle800))) (h7.le (hle512.trans (hle642.trans hle800))) (h10.le (hle512.trans (hle642.trans hle800))) (h13.le (hle512.trans (hle642.trans hle800))) (h16.le (hle512.trans (hle642.trans hle800))) (h20.le (hle512.trans (hle642.trans hle800))) (h517.le (hle642.trans hle800)) h805 hnz810 h808 l848 l849 hcl850) ?_ ?_
      ·
       rintro _ b851 _ hle852 ⟨A853, c854, hs855, hs856, rfl, rfl, h857, h858, h859⟩
       refine ⟨.inr (.cons _ (sub_skip hs514 (sub_skip hs855 (sub_skip hs856 (.refl _))))), ?_⟩
       refine d_in3 [_] [_, _, _] hs514 hs855 hs856 R rfl ?_
       refine D_done (by kernel_rfl) ?_
       refine x_block_normal ?_
       refine x_then_normal ?_
       refine c_region ?_
       refine t_st rfl (st_add rfl rfl (by omega)) ?_
       refine t_mv rfl rfl ?_
       refine t_nil ?_
       refine x_pullb 3 rfl ?_
       refine x_pullb 3 rfl ?_
       refine x_front3 [_, _, _, _] hs514 hs855 hs856 R rfl ?_
       refine x_front3 [_, _, _, _] hs856 hs514 hs855 R rfl ?_
       refine x_front3 [_, _, _, _] hs855 hs856 hs514 R rfl ?_
       obtain rfl := some1 hm
       exact x_againS (e' := [(2, .pointer (some ⟨g485, 0, none⟩)), (3, .pointer (some ⟨g486, 0, none⟩)), (5, .pointer (some ⟨g522, 0, none⟩)), (40, .slice A515 (l523).length c516), (41, .int .i64 ((l523.length : Int))), (42, .int .i64 ((k812 : Int) + 1))]) ⟨rfl, rfl, rfl, rfl, rfl, rfl, trivial⟩ (.cons_cons _ (.cons_cons _ (.cons_cons _ (.cons _ (.refl _))))) ⟨A853, c854, hs855, hs856, rfl, rfl, ((hle800.trans hle852)), h857, h858, h859⟩
      exact R_nil
     exact R_nil
    ·
     rintro b799 _ _ ⟨A803, c804, hs802, hs807, rfl, rfl, hle800, h805, hnz810, h808⟩
     have hm := (unc2E hk814)
     refine c_sr ?_
     refine t_st rfl (st_lss_f rfl rfl (by omega)) ?_
     refine t_ne ?_
     refine c_seq ?_
     refine c_cond_f rfl ?_
     refine c_exit ?_
     refine x_then_exit ?_
     refine x_then_exit ?_
     refine x_block_out ?_
     refine x_then_normal ?_
     refine c_seq ?_
     refine c_sr ?_
     refine t_st rfl (st_field rfl fld54_2) ?_
     refine t_st rfl (st_load 1 rfl one52 rfl rfl) ?_
     refine t_st rfl (st_len rfl sl52) ?_
     refine t_mv rfl rfl ?_
     refine t_ne ?_
     refine c_block ?_
     have hb861 : s17.Steps.length ≤ 9223372036854775807 := (FZ.bd (h20.le (hle512.trans (hle642.trans hle800))))
     refine c_pullb 2 rfl ?_
     refine c_pullb 2 rfl ?_
     refine c_front3 [_, _, _] hs514 hs802 hs807 R rfl ?_
     refine c_front3 [_, _, _] hs807 hs514 hs802 R rfl ?_
     refine c_front3 [_, _, _] hs802 hs807 hs514 R rfl ?_
     obtain ⟨⟨l911, l913⟩, hl915, hk916⟩ := bindS hm
     refine c_forS (fun k914 => unc2 fun l911 l913 => fun b900 e' hp' => ∃ (A904 : Option Addr), ∃ (c905 : Nat), ∃ (hs903 : Hp), ∃ (g909 : Nat), ∃ (hs908 : Hp), [(3, .pointer (some ⟨g486, 0, none⟩)), (5, .pointer (some ⟨g522, 0, none⟩)), (57, .int .i64 ((s17.Steps.length : Int))), (58, .int .i64 ((k914 : Int)))] = e' ∧ (g486, Cl 54 [.int .i64 (s17.From), .int .i64 (s17.To), .slice A18 (s17.Steps).length c19]) :: (g522, Cl 86 [.slice A2 (s1.Stations).length c3, .slice A5 (s1.Sections).length c6, .slice A8 (s1.Links).length c9, .slice A11 (s1.Signals).length c12, .slice A14 (s1.Gates).length c15, .int .i64 (s17.From), .int .i64 (s17.To), .slice A18 (s17.Steps).length c19, .slice A515 (l523).length c516, .slice A904 (l911).length c905, .map (some g909)]) :: (hs514 ++ (hs903 ++ (hs908 ++ R))) = hp' ∧ b799.Le b900 ∧ OS 42 (OT.fr rApiNeed) b900.w (.slice A904 l911.length c905) l911 hs903 ∧ (A904 = none ↔ l911 = []) ∧ OM rApiNeed (OT.fr RT.bool) true false b900.w g909 l913 hs908) hl915 (e' := [(3, .pointer (some ⟨g486, 0, none⟩)), (5, .pointer (some ⟨g522, 0, none⟩)), (57, .int .i64 ((s17.Steps.length : Int))), (58, .int .i64 0)]) ⟨rfl, rfl, rfl, rfl, trivial⟩ (.cons_cons _ (.cons_cons _ (.cons _ (.refl _)))) ⟨A803, c804, hs802, g520, hs807, rfl, rfl, (Base.Le.refl _), h805, hnz810, h808⟩ ?_ ?_
     ·
      rintro k914 ⟨l911, l913⟩ b900 _ _ oL860 hknL860 ⟨A904, c905, hs903, g909, hs908, rfl, rfl, hle901, h906, hnz912, h910⟩ hstepL860
      unfold mLineNeeds_L860 at hstepL860
      have hm := (unc2E hstepL860)
      refine c_sr ?_
      refine t_st rfl (st_lss_t rfl rfl (by omega)) ?_
      refine t_ne ?_
      refine c_seq ?_
      refine c_cond_t rfl ?_
      refine c_skip ?_
      refine x_then_normal ?_
      refine c_seq ?_
      refine c_block ?_
      refine c_sr ?_
      refine t_mv rfl rfl ?_
      refine t_as rfl rfl ?_
      refine t_ne ?_
      refine c_region ?_
      refine t_mv rfl rfl ?_
      refine t_mv rfl rfl ?_
      obtain ⟨⟨l917, l918⟩, hcl919, hm⟩ := bindS hm
      have hm := (unc2E hm)
      refine t_pullb 1 rfl ?_
      refine t_front3 [_, _] hs514 hs903 hs908 R rfl ?_
      refine t_front3 [_, _] hs908 hs514 hs903 R rfl ?_
      refine t_front3 [_, _] hs903 hs908 hs514 R rfl ?_
      refine t_out3 [_] [_] hs514 hs903 hs908 R rfl ?_
      refine t_callG _ rfl call37 rfl (cLineLookerLook _ _ (k914 : Int) s1.Stations s1.Sections s1.Links s1.Signals s1.Gates s17.From s17.To s17.Steps l523 l911 l913 g522 A2 c3 A5 c6 A8 c9 A11 c12 A14 c15 A18 c19 A515 c516 hs514 A904 c905 hs903 g909 hs908 (h4.le (hle512.trans (hle642.trans (hle800.trans hle901)))) (h7.le (hle512.trans (hle642.trans (hle800.trans hle901)))) (h10.le (hle512.trans (hle642.trans (hle800.trans hle901)))) (h13.le (hle512.trans (hle642.trans (hle800.trans hle901)))) (h16.le (hle512.trans (hle642.trans (hle800.trans hle901)))) (h20.le (hle512.trans (hle642.trans (hle800.trans hle901)))) (h517.le (hle642.trans (hle800.trans hle901))) h906 hnz912 h910 l917 l918 hcl919) ?_
      rintro _ b920 _ hle921 ⟨A922, c923, hs924, g925, hs926, rfl, rfl, h927, h928, h929⟩
      refine t_in3 [_] [_] hs514 hs924 hs926 R rfl ?_
      refine t_nil ?_
      refine x_block_normal ?_
      refine x_then_normal ?_
      refine c_region ?_
      refine t_st rfl (st_add rfl rfl (by omega)) ?_
      refine t_mv rfl rfl ?_
      refine t_nil ?_
      refine x_pullb 1 rfl ?_
      refine x_front3 [_, _] hs514 hs924 hs926 R rfl ?_
      refine x_front3 [_, _] hs926 hs514 hs924 R rfl ?_
      refine x_front3 [_, _] hs924 hs926 hs514 R rfl ?_
      obtain rfl := some1 hm
      exact x_againS (e' := [(3, .pointer (some ⟨g486, 0, none⟩)), (5, .pointer (some ⟨g522, 0, none⟩)), (57, .int .i64 ((s17.Steps.length : Int))), (58, .int .i64 ((k914 : Int) + 1))]) ⟨rfl, rfl, rfl, rfl, trivial⟩ (.refl _) ⟨A922, c923, hs924, g925, hs926, rfl, rfl, ((hle901.trans hle921)), h927, h928, h929⟩
     ·
      rintro b900 _ _ ⟨A904, c905, hs903, g909, hs908, rfl, rfl, hle901, h906, hnz912, h910⟩
      have hm := (unc2E hk916)
      refine c_sr ?_
      refine t_st rfl (st_lss_f rfl rfl (by omega)) ?_
      refine t_ne ?_
      refine c_seq ?_
      refine c_cond_f rfl ?_
      refine c_exit ?_
      refine x_then_exit ?_
      refine x_then_exit ?_
      refine x_block_out ?_
      refine x_then_normal ?_
      refine c_sr ?_
      refine t_mv rfl rfl ?_
      refine t_st rfl (st_field rfl fld54_0) ?_
      refine t_st rfl (st_load 0 rfl one3 rfl rfl) ?_
      refine t_st rfl (st_build (v := .agg #[.int .i64 (5), .int .i64 (s17.From), .int .i64 (0), .int .i64 ((-1))]) [(0, .int .i64 (5)), (1, .int .i64 (s17.From)), (3, .int .i64 ((-1)))] rfl (fun _ => by kernel_rfl)) ?_
      obtain ⟨⟨l930, l931⟩, hcl932, hm⟩ := bindS hm
      have hm := (unc2E hm)
      refine t_pullb 1 rfl ?_
      refine t_front3 [_, _] hs514 hs903 hs908 R rfl ?_
      refine t_front3 [_, _] hs908 hs514 hs903 R rfl ?_
      refine t_front3 [_, _] hs903 hs908 hs514 R rfl ?_
      refine t_out3 [_] [_] hs514 hs903 hs908 R rfl ?_
      refine t_callG _ rfl call35 rfl (cLineLookerNeed _ _ (⟨5, s17.From, 0, (-1)⟩ : ApiNeed) s1.Stations s1.Sections s1.Links s1.Signals s1.Gates s17.From s17.To s17.Steps l523 l911 l913 g522 A2 c3 A5 c6 A8 c9 A11 c12 A14 c15 A18 c19 A515 c516 hs514 A904 c905 hs903 g909 hs908 (h4.le (hle512.trans (hle642.trans (hle800.trans hle901)))) (h7.le (hle512.trans (hle642.trans (hle800.trans hle901)))) (h10.le (hle512.trans (hle642.trans (hle800.trans hle901)))) (h13.le (hle512.trans (hle642.trans (hle800.trans hle901)))) (h16.le (hle512.trans (hle642.trans (hle800.trans hle901)))) (h20.le (hle512.trans (hle642.trans (hle800.trans hle901)))) (h517.le (hle642.trans (hle800.trans hle901))) h906 hnz912 h910 l930 l931 hcl932) ?_
      rintro _ b933 _ hle934 ⟨A935, c936, hs937, hs938, rfl, rfl, h939, h940, h941⟩
      refine t_in3 [_] [_] hs514 hs937 hs938 R rfl ?_
      refine t_ne ?_
      refine c_sr ?_
      refine t_mv rfl rfl ?_
      refine t_st rfl (st_nil rfl) ?_
      refine t_st rfl (st_field rfl fld86_3) ?_
      refine t_st rfl (st_load 0 rfl one38 rfl rfl) ?_
      refine t_as rfl rfl ?_
      refine t_ne ?_
      refine c_ret ?_
      obtain rfl := some1 hm
      refine x_front2 [_, _] hs514 hs937 (hs938 ++ R) rfl ?_
      exact retM (rs := [.tmp 4]) [.slice A935 (l930).length c936] (hle512.trans (hle642.trans (hle800.trans (hle901.trans hle934)))) (by decide) rfl ⟨rfl, trivial⟩ rfl (.cons _ (.cons _ (sub_app hs937 (sub_skip hs514 (sub_skip hs938 (.refl _)))))) ⟨A935, c936, hs937, rfl, rfl, h939, h940⟩

set_option maxRecDepth 20000 in
theorem cLineMeets_1 (b : Base) (R : Hp) (s1 : ApiNeed) (x9 : Bool) (hm : mLineMeets_1 s1 = some x9) :
    CallsG Tryz.prog 53 [.agg #[.int .i64 (s1.Kind), .int .i64 (s1.Place), .int .i64 (s1.Position), .int .i64 (s1.At)]] b (R) (fun v b' hp' => .bool (x9) = v ∧ R = hp') := by
  refine fn_enterG 11 Tryz.func53 rfl Tryz.ntmps53 rfl ?_
  unfold mLineMeets_1 at hm
  refine c_sr ?_
  refine t_do rfl (u_box _ rfl rfl) ?_
  rintro _ _ ⟨g10, rfl, rfl⟩
  refine t_as rfl rfl ?_
  refine t_ne ?_
  obtain ⟨x14, hj15, hk15⟩ := bindS hm
  refine c_join (fun b12 e' hp' => [(2, .bool (x14))] = e' ∧ R = hp' ∧ b.Le b12) ?_ ?_
  ·
   have hm := hj15
   refine c_region ?_
   refine t_st rfl (st_field rfl fld42_0) ?_
   refine t_st rfl (st_load 0 rfl one3 rfl rfl) ?_
   refine t_bool rfl (st_eql rfl rfl) (fun hc16 => ?_) (fun hc16 => ?_)
   ·
    rw [if_pos hc16] at hm
    refine t_mv rfl rfl ?_
    refine t_no 6 rfl rfl rfl rfl rfl ?_
    refine t_no 6 rfl rfl rfl rfl rfl ?_
    refine t_no 6 rfl rfl rfl rfl rfl ?_
    refine t_st rfl (st_pick_t rfl rfl) ?_
    refine t_as rfl rfl ?_
    refine t_nil ?_
    obtain rfl := some1 hm
    exact x_join (e' := [(2, .bool (true))]) ⟨rfl, trivial⟩ (.cons _ (.refl _)) ⟨rfl, rfl, (Base.Le.refl _)⟩
   ·
    rw [if_neg hc16] at hm
    refine t_mv rfl rfl ?_
    refine t_yes 6 rfl rfl rfl ?_
    refine t_st rfl (st_field rfl fld42_0) ?_
    refine t_yes 6 rfl rfl rfl ?_
    refine t_st rfl (st_load 0 rfl one3 rfl rfl) ?_
    refine t_yes 6 rfl rfl rfl ?_
    refine t_st rfl (st_eql rfl rfl) ?_
    refine t_st rfl (st_pick_f rfl rfl) ?_
    refine t_as rfl rfl ?_
    refine t_nil ?_
    obtain rfl := some1 hm
    exact x_join (e' := [(2, .bool (decide (s1.Kind = 2)))]) ⟨rfl, trivial⟩ (.cons _ (.refl _)) ⟨rfl, rfl, (Base.Le.refl _)⟩
  ·
   rintro b12 _ _ ⟨rfl, rfl, hle13⟩
   have hm := hk15
   refine c_ret ?_
   obtain rfl := some1 hm
   exact retM (rs := [.tmp 2]) [.bool (x14)] hle13 (by decide) rfl ⟨rfl, trivial⟩ rfl (.refl _) ⟨rfl, rfl⟩

set_option maxRecDepth 20000 in
theorem cLineMeets_2 (b : Base) (R : Hp) (s2 : ApiNeed) (s3 : ApiNeed) (g1 : Nat) (x20 : Bool) (hm : mLineMeets_2 s2 s3 = some x20) :
    CallsG Tryz.prog 54 [.agg #[.int .i64 (s2.Kind), .int .i64 (s2.Place), .int .i64 (s2.Position), .int .i64 (s2.At)], .agg #[.int .i64 (s3.Kind), .int .i64 (s3.Place), .int .i64 (s3.Position), .int .i64 (s3.At)], .pointer (some ⟨g1, 0, none⟩)] b ((g1, Cl 81 [.func (.func 53) #[] #[]]) :: R) (fun v b' hp' => .bool (x20) = v ∧ (g1, Cl 81 [.func (.func 53) #[] #[]]) :: R = hp') := by
  refine fn_enterG 26 Tryz.func54 rfl Tryz.ntmps54 rfl ?_
  unfold mLineMeets_2 at hm
  refine c_sr ?_
  refine t_do rfl (u_box _ rfl rfl) ?_
  rintro _ _ ⟨g21, rfl, rfl⟩
  refine t_do rfl (u_box _ rfl rfl) ?_
  rintro _ _ ⟨g22, rfl, rfl⟩
  refine t_as rfl rfl ?_
  refine t_ne ?_
  obtain ⟨x30, hj31, hk31⟩ := bindS hm
  refine c_join (fun b28 e' hp' => [(5, .bool (x30))] = e' ∧ (g1, Cl 81 [.func (.func 53) #[] #[]]) :: R = hp' ∧ b.Le b28) ?_ ?_
  ·
   have hm := hj31
   refine c_region ?_
   refine t_st rfl (st_field rfl fld42_0) ?_
   refine t_st rfl (st_load 1 rfl one3 rfl rfl) ?_
   refine t_bool rfl (st_eql rfl rfl) (fun hc32 => ?_) (fun hc32 => ?_)
   ·
    rw [if_pos hc32] at hm
    refine t_mv rfl rfl ?_
    refine t_yes 9 rfl rfl rfl ?_
    refine t_st rfl (st_field rfl fld42_0) ?_
    refine t_yes 9 rfl rfl rfl ?_
    refine t_st rfl (st_load 0 rfl one3 rfl rfl) ?_
    refine t_yes 9 rfl rfl rfl ?_
    refine t_bool rfl (st_eql rfl rfl) (fun hc33 => ?_) (fun hc33 => ?_)
    ·
     rw [if_pos hc33] at hm
     refine t_yes 9 rfl rfl rfl ?_
     refine t_mv rfl rfl ?_
     refine t_no 13 rfl rfl rfl rfl rfl ?_
     refine t_no 13 rfl rfl rfl rfl rfl ?_
     refine t_no 13 rfl rfl rfl rfl rfl ?_
     refine t_yes 9 rfl rfl rfl ?_
     refine t_st rfl (st_pick_t rfl rfl) ?_
     refine t_st rfl (st_pick_t rfl rfl) ?_
     refine t_mv rfl rfl ?_
     refine t_yes 19 rfl rfl rfl ?_
     refine t_st rfl (st_field rfl fld42_2) ?_
     refine t_yes 19 rfl rfl rfl ?_
     refine t_st rfl (st_load 1 rfl one3 rfl rfl) ?_
     refine t_yes 19 rfl rfl rfl ?_
     refine t_st rfl (st_field rfl fld42_2) ?_
     refine t_yes 19 rfl rfl rfl ?_
     refine t_st rfl (st_load 0 rfl one3 rfl rfl) ?_
     refine t_yes 19 rfl rfl rfl ?_
     refine t_st rfl (st_neq rfl rfl) ?_
     refine t_st rfl (st_pick_t rfl rfl) ?_
     refine t_as rfl rfl ?_
     refine t_nil ?_
     obtain rfl := some1 hm
     refine x_pullb 2 rfl ?_
     exact x_join (e' := [(5, .bool (decide (s2.Position ≠ s3.Position)))]) ⟨rfl, trivial⟩ (.cons_cons _ (.cons _ (.cons _ (.refl _)))) ⟨rfl, rfl, (Base.Le.refl _)⟩
    ·
     rw [if_neg hc33] at hm
     refine t_yes 9 rfl rfl rfl ?_
     refine t_mv rfl rfl ?_
     refine t_yes 13 rfl rfl rfl ?_
     refine t_st rfl (st_load 2 rfl one81 rfl rfl) ?_
     refine t_yes 13 rfl rfl rfl ?_
     refine t_st rfl (st_loadD (vs := [_, _, _, _]) 0 4 rfl agg42 rfl rfl rfl) ?_
     refine t_yes 13 rfl rfl rfl ?_
     obtain ⟨x34, hcl35, hm⟩ := bindS hm
     refine t_do rfl (u_callvW0 #[] #[] [.agg #[.int .i64 (s3.Kind), .int .i64 (s3.Place), .int .i64 (s3.Position), .int .i64 (s3.At)]] rfl call53 rfl (fun w ho => cLineMeets_1 _ [] s3 x34 hcl35) (fun _ _ _ h => h.2.symm)) ?_
     rintro _ _ ⟨⟨_, rfl, _⟩, rfl⟩
     rcases Bool.eq_false_or_eq_true x34 with hc36 | hc36
     ·
      rw [if_pos hc36] at hm
      refine t_resp 16 rfl (v' := .bool true) (by rw [hc36] <;> rfl) ?_
      refine t_yes 9 rfl rfl rfl ?_
      refine t_st rfl (st_pick_f rfl rfl) ?_
      refine t_st rfl (st_pick_t rfl rfl) ?_
      refine t_mv rfl rfl ?_
      refine t_yes 19 rfl rfl rfl ?_
      refine t_st rfl (st_field rfl fld42_2) ?_
      refine t_yes 19 rfl rfl rfl ?_
      refine t_st rfl (st_load 1 rfl one3 rfl rfl) ?_
      refine t_yes 19 rfl rfl rfl ?_
      refine t_st rfl (st_field rfl fld42_2) ?_
      refine t_yes 19 rfl rfl rfl ?_
      refine t_st rfl (st_load 0 rfl one3 rfl rfl) ?_
      refine t_yes 19 rfl rfl rfl ?_
      refine t_st rfl (st_neq rfl rfl) ?_
      refine t_st rfl (st_pick_t rfl rfl) ?_
      refine t_as rfl rfl ?_
      refine t_nil ?_
      obtain rfl := some1 hm
      refine x_pullb 2 rfl ?_
      exact x_join (e' := [(5, .bool (decide (s2.Position ≠ s3.Position)))]) ⟨rfl, trivial⟩ (.cons_cons _ (.cons _ (.cons _ (.refl _)))) ⟨rfl, rfl, (Base.Le.refl _)⟩
     ·
      rw [if_neg (fun hh => Bool.noConfusion (hh.symm.trans hc36))] at hm
      refine t_resp 16 rfl (v' := .bool false) (by rw [hc36] <;> rfl) ?_
      refine t_yes 9 rfl rfl rfl ?_
      refine t_st rfl (st_pick_f rfl rfl) ?_
      refine t_st rfl (st_pick_t rfl rfl) ?_
      refine t_mv rfl rfl ?_
      refine t_no 19 rfl rfl rfl rfl rfl ?_
      refine t_no 19 rfl rfl rfl rfl rfl ?_
      refine t_no 19 rfl rfl rfl rfl rfl ?_
      refine t_no 19 rfl rfl rfl rfl rfl ?_
      refine t_no 19 rfl rfl rfl rfl rfl ?_
      refine t_st rfl (st_pick_f rfl rfl) ?_
      refine t_as rfl rfl ?_
      refine t_nil ?_
      obtain rfl := some1 hm
      refine x_pullb 2 rfl ?_
      exact x_join (e' := [(5, .bool (false))]) ⟨rfl, trivial⟩ (.cons_cons _ (.cons _ (.cons _ (.refl _)))) ⟨rfl, rfl, (Base.Le.refl _)⟩
   ·
    rw [if_neg hc32] at hm
    refine t_mv rfl rfl ?_
    refine t_no 9 rfl rfl rfl rfl rfl ?_
    refine t_no 9 rfl rfl rfl rfl rfl ?_
    refine t_no 9 rfl rfl rfl rfl rfl ?_
    refine t_no 9 rfl rfl rfl rfl rfl ?_
    refine t_no 13 rfl rfl rfl rfl rfl ?_
    refine t_no 13 rfl rfl rfl rfl rfl ?_
    refine t_no 13 rfl rfl rfl rfl rfl ?_
    refine t_no 9 rfl rfl rfl rfl rfl ?_
    refine t_st rfl (st_pick_f rfl rfl) ?_
    refine t_mv rfl rfl ?_
    refine t_no 19 rfl rfl rfl rfl rfl ?_
    refine t_no 19 rfl rfl rfl rfl rfl ?_
    refine t_no 19 rfl rfl rfl rfl rfl ?_
    refine t_no 19 rfl rfl rfl rfl rfl ?_
    refine t_no 19 rfl rfl rfl rfl rfl ?_
    refine t_st rfl (st_pick_f rfl rfl) ?_
    refine t_as rfl rfl ?_
    refine t_nil ?_
    obtain rfl := some1 hm
    refine x_pullb 2 rfl ?_
    exact x_join (e' := [(5, .bool (false))]) ⟨rfl, trivial⟩ (.cons_cons _ (.cons _ (.cons _ (.refl _)))) ⟨rfl, rfl, (Base.Le.refl _)⟩
  ·
   rintro b28 _ _ ⟨rfl, rfl, hle29⟩
   have hm := hk31
   refine c_ret ?_
   obtain rfl := some1 hm
   exact retM (rs := [.tmp 5]) [.bool (x30)] hle29 (by decide) rfl ⟨rfl, trivial⟩ rfl (.refl _) ⟨rfl, rfl⟩

set_option maxRecDepth 20000 in
theorem cLineMeets_3 (b : Base) (R : Hp) (s1 : ApiNeed) (s2 : ApiNeed) (x11 : Bool) (hm : mLineMeets_3 s1 s2 = some x11) :
    CallsG Tryz.prog 55 [.agg #[.int .i64 (s1.Kind), .int .i64 (s1.Place), .int .i64 (s1.Position), .int .i64 (s1.At)], .agg #[.int .i64 (s2.Kind), .int .i64 (s2.Place), .int .i64 (s2.Position), .int .i64 (s2.At)]] b (R) (fun v b' hp' => .bool (x11) = v ∧ R = hp') := by
  refine fn_enterG 13 Tryz.func55 rfl Tryz.ntmps55 rfl ?_
  unfold mLineMeets_3 at hm
  refine c_sr ?_
  refine t_do rfl (u_box _ rfl rfl) ?_
  rintro _ _ ⟨g12, rfl, rfl⟩
  refine t_do rfl (u_box _ rfl rfl) ?_
  rintro _ _ ⟨g13, rfl, rfl⟩
  refine t_as rfl rfl ?_
  refine t_ne ?_
  obtain ⟨x17, hj18, hk18⟩ := bindS hm
  refine c_join (fun b15 e' hp' => [(4, .bool (x17))] = e' ∧ R = hp' ∧ b.Le b15) ?_ ?_
  ·
   have hm := hj18
   refine c_region ?_
   refine t_st rfl (st_field rfl fld42_0) ?_
   refine t_st rfl (st_load 1 rfl one3 rfl rfl) ?_
   refine t_bool rfl (st_eql rfl rfl) (fun hc19 => ?_) (fun hc19 => ?_)
   ·
    rw [if_pos hc19] at hm
    refine t_mv rfl rfl ?_
    refine t_yes 8 rfl rfl rfl ?_
    refine t_st rfl (st_field rfl fld42_0) ?_
    refine t_yes 8 rfl rfl rfl ?_
    refine t_st rfl (st_load 0 rfl one3 rfl rfl) ?_
    refine t_yes 8 rfl rfl rfl ?_
    refine t_st rfl (st_eql rfl rfl) ?_
    refine t_st rfl (st_pick_t rfl rfl) ?_
    refine t_as rfl rfl ?_
    refine t_nil ?_
    obtain rfl := some1 hm
    exact x_join (e' := [(4, .bool (decide (s2.Kind = 5)))]) ⟨rfl, trivial⟩ (.cons _ (.cons _ (.refl _))) ⟨rfl, rfl, (Base.Le.refl _)⟩
   ·
    rw [if_neg hc19] at hm
    refine t_mv rfl rfl ?_
    refine t_no 8 rfl rfl rfl rfl rfl ?_
    refine t_no 8 rfl rfl rfl rfl rfl ?_
    refine t_no 8 rfl rfl rfl rfl rfl ?_
    refine t_st rfl (st_pick_f rfl rfl) ?_
    refine t_as rfl rfl ?_
    refine t_nil ?_
    obtain rfl := some1 hm
    exact x_join (e' := [(4, .bool (false))]) ⟨rfl, trivial⟩ (.cons _ (.cons _ (.refl _))) ⟨rfl, rfl, (Base.Le.refl _)⟩
  ·
   rintro b15 _ _ ⟨rfl, rfl, hle16⟩
   have hm := hk18
   refine c_ret ?_
   obtain rfl := some1 hm
   exact retM (rs := [.tmp 4]) [.bool (x17)] hle16 (by decide) rfl ⟨rfl, trivial⟩ rfl (.refl _) ⟨rfl, rfl⟩

set_option maxRecDepth 20000 in
theorem cLineMeets (b : Base) (R : Hp) (s1 : ApiNeed) (s2 : ApiNeed) (x83 : Bool) (hm : mLineMeets s1 s2 = some x83) :
    CallsG Tryz.prog 33 [.agg #[.int .i64 (s1.Kind), .int .i64 (s1.Place), .int .i64 (s1.Position), .int .i64 (s1.At)], .agg #[.int .i64 (s2.Kind), .int .i64 (s2.Place), .int .i64 (s2.Position), .int .i64 (s2.At)]] b (R) (fun v b' hp' => .bool (x83) = v ∧ R = hp') := by
  refine fn_enterG 46 Tryz.func33 rfl Tryz.ntmps33 rfl ?_
  unfold mLineMeets at hm
  refine c_sr ?_
  refine t_do rfl (u_box _ rfl rfl) ?_
  rintro _ _ ⟨g84, rfl, rfl⟩
  refine t_do rfl (u_box _ rfl rfl) ?_
  rintro _ _ ⟨g85, rfl, rfl⟩
  refine t_as rfl rfl ?_
  refine t_ne ?_
  refine c_seq ?_
  refine c_sr ?_
  refine t_st rfl (st_field rfl fld42_1) ?_
  refine t_st rfl (st_load 1 rfl one3 rfl rfl) ?_
  refine t_st rfl (st_field rfl fld42_1) ?_
  refine t_st rfl (st_load 0 rfl one3 rfl rfl) ?_
  refine t_st rfl (st_neq rfl rfl) ?_
  refine t_ne ?_
  refine c_cond _ rfl (fun hc86 => ?_) (fun hc86 => ?_)
  ·
   rw [if_pos (of_decide_eq_true hc86)] at hm
   refine c_sr ?_
   refine t_as rfl rfl ?_
   refine t_ne ?_
   refine c_ret ?_
   refine x_then_ret ?_
   obtain rfl := some1 hm
   exact retM (rs := [.tmp 4]) [.bool (false)] (Base.Le.refl _) (by decide) rfl ⟨rfl, trivial⟩ rfl (.cons _ (.cons _ (.refl _))) ⟨rfl, rfl⟩
  ·
   rw [if_neg (of_decide_eq_false hc86)] at hm
   refine c_skip ?_
   refine x_then_normal ?_
   refine c_sr ?_
   refine t_do rfl (u_alloc [.nilFunc] zero81 rfl) ?_
   rintro _ _ ⟨g87, rfl, rfl⟩
   refine t_do rfl (u_store 0 rfl rfl siz81 rfl rfl (by simp)) ?_
   rintro _ _ rfl
   refine t_ne ?_
   refine c_sr ?_
   refine t_st rfl (st_func _ _ rfl rfl) ?_
   refine t_as rfl rfl ?_
   refine t_ne ?_
   refine c_sr ?_
   refine t_as rfl rfl ?_
   refine t_ne ?_
   obtain ⟨x126, hj127, hk127⟩ := bindS hm
   refine c_join (fun b124 e' hp' => [(4, .bool (x126))] = e' ∧ R = hp' ∧ b.Le b124) ?_ ?_
   ·
    have hm := hj127
    refine c_region ?_
    refine t_st rfl (st_load 0 rfl one81 rfl rfl) ?_
    refine t_st rfl (st_loadD (vs := [_, _, _, _]) 2 4 rfl agg42 rfl rfl rfl) ?_
    obtain ⟨x128, hcl129, hm⟩ := bindS hm
    refine t_do rfl (u_callvW0 #[] #[] [.agg #[.int .i64 (s1.Kind), .int .i64 (s1.Place), .int .i64 (s1.Position), .int .i64 (s1.At)]] rfl call53 rfl (fun w ho => cLineMeets_1 _ [] s1 x128 hcl129) (fun _ _ _ h => h.2.symm)) ?_
    rintro _ _ ⟨⟨_, rfl, _⟩, rfl⟩
    rcases Bool.eq_false_or_eq_true x128 with hc130 | hc130
    ·
     rw [if_pos hc130] at hm
     refine t_resp 16 rfl (v' := .bool true) (by rw [hc130] <;> rfl) ?_
     refine t_mv rfl rfl ?_
     refine t_yes 17 rfl rfl rfl ?_
     refine t_st rfl (st_load 0 rfl one81 rfl rfl) ?_
     refine t_yes 17 rfl rfl rfl ?_
     refine t_st rfl (st_loadD (vs := [_, _, _, _]) 1 4 rfl agg42 rfl rfl rfl) ?_
     refine t_yes 17 rfl rfl rfl ?_
     obtain ⟨x131, hcl132, hm⟩ := bindS hm
     refine t_do rfl (u_callvW0 #[] #[] [.agg #[.int .i64 (s2.Kind), .int .i64 (s2.Place), .int .i64 (s2.Position), .int .i64 (s2.At)]] rfl call53 rfl (fun w ho => cLineMeets_1 _ [] s2 x131 hcl132) (fun _ _ _ h => h.2.symm)) ?_
     rintro _ _ ⟨⟨_, rfl, _⟩, rfl⟩
     rcases Bool.eq_false_or_eq_true x131 with hc133 | hc133
     ·
      rw [if_pos hc133] at hm
      refine t_resp 20 rfl (v' := .bool true) (by rw [hc133] <;> rfl) ?_
      refine t_st rfl (st_pick_t rfl rfl) ?_
      refine t_mv rfl rfl ?_
      refine t_no 22 rfl rfl rfl rfl rfl ?_
      refine t_no 22 rfl rfl rfl rfl rfl ?_
      refine t_no 22 rfl rfl rfl rfl rfl ?_
      refine t_no 22 rfl rfl rfl rfl rfl ?_
      refine t_st rfl (st_pick_t rfl rfl) ?_
      refine t_mv rfl rfl ?_
      refine t_no 28 rfl rfl rfl rfl rfl ?_
      refine t_no 28 rfl rfl rfl rfl rfl ?_
      refine t_no 28 rfl rfl rfl rfl rfl ?_
      refine t_no 28 rfl rfl rfl rfl rfl ?_
      refine t_st rfl (st_pick_t rfl rfl) ?_
      refine t_mv rfl rfl ?_
      refine t_no 34 rfl rfl rfl rfl rfl ?_
      refine t_no 34 rfl rfl rfl rfl rfl ?_
      refine t_no 34 rfl rfl rfl rfl rfl ?_
      refine t_no 34 rfl rfl rfl rfl rfl ?_
      refine t_st rfl (st_pick_t rfl rfl) ?_
      refine t_mv rfl rfl ?_
      refine t_no 40 rfl rfl rfl rfl rfl ?_
      refine t_no 40 rfl rfl rfl rfl rfl ?_
      refine t_no 40 rfl rfl rfl rfl rfl ?_
      refine t_no 40 rfl rfl rfl rfl rfl ?_
      refine t_st rfl (st_pick_t rfl rfl) ?_
      refine t_as rfl rfl ?_
      refine t_nil ?_
      obtain rfl := some1 hm
      exact x_join (e' := [(4, .bool (true))]) ⟨rfl, trivial⟩ (.cons _ (.cons _ (.cons _ (.refl _)))) ⟨rfl, rfl, (Base.Le.refl _)⟩
     ·
      rw [if_neg (fun hh => Bool.noConfusion (hh.symm.trans hc133))] at hm
      refine t_resp 20 rfl (v' := .bool false) (by rw [hc133] <;> rfl) ?_
      refine t_st rfl (st_pick_t rfl rfl) ?_
      refine t_mv rfl rfl ?_
      refine t_yes 22 rfl rfl rfl ?_
      refine t_mv rfl rfl ?_
      refine t_yes 22 rfl rfl rfl ?_
      refine t_st rfl (st_loadD (vs := [_, _, _, _]) 2 4 rfl agg42 rfl rfl rfl) ?_
      refine t_yes 22 rfl rfl rfl ?_
      refine t_st rfl (st_loadD (vs := [_, _, _, _]) 1 4 rfl agg42 rfl rfl rfl) ?_
      refine t_yes 22 rfl rfl rfl ?_
      obtain ⟨x134, hcl135, hm⟩ := bindS hm
      refine t_callvG #[] #[.pointer (some ⟨g87, 0, none⟩)] [.agg #[.int .i64 (s1.Kind), .int .i64 (s1.Place), .int .i64 (s1.Position), .int .i64 (s1.At)], .agg #[.int .i64 (s2.Kind), .int .i64 (s2.Place), .int .i64 (s2.Position), .int .i64 (s2.At)]] rfl rfl call54 rfl (cLineMeets_2 _ _ s1 s2 g87 x134 hcl135) ?_
      rintro _ b136 _ hle137 ⟨rfl, rfl⟩
      rcases Bool.eq_false_or_eq_true x134 with hc138 | hc138
      ·
       rw [if_pos hc138] at hm
       refine t_resp 26 rfl (v' := .bool true) (by rw [hc138] <;> rfl) ?_
       refine t_st rfl (st_pick_f rfl rfl) ?_
       refine t_mv rfl rfl ?_
       refine t_no 28 rfl rfl rfl rfl rfl ?_
       refine t_no 28 rfl rfl rfl rfl rfl ?_
       refine t_no 28 rfl rfl rfl rfl rfl ?_
       refine t_no 28 rfl rfl rfl rfl rfl ?_
       refine t_st rfl (st_pick_t rfl rfl) ?_
       refine t_mv rfl rfl ?_
       refine t_no 34 rfl rfl rfl rfl rfl ?_
       refine t_no 34 rfl rfl rfl rfl rfl ?_
       refine t_no 34 rfl rfl rfl rfl rfl ?_
       refine t_no 34 rfl rfl rfl rfl rfl ?_
       refine t_st rfl (st_pick_t rfl rfl) ?_
       refine t_mv rfl rfl ?_
       refine t_no 40 rfl rfl rfl rfl rfl ?_
       refine t_no 40 rfl rfl rfl rfl rfl ?_
       refine t_no 40 rfl rfl rfl rfl rfl ?_
       refine t_no 40 rfl rfl rfl rfl rfl ?_
       refine t_st rfl (st_pick_t rfl rfl) ?_
       refine t_as rfl rfl ?_
       refine t_nil ?_
       obtain rfl := some1 hm
       exact x_join (e' := [(4, .bool (true))]) ⟨rfl, trivial⟩ (.cons _ (.cons _ (.cons _ (.refl _)))) ⟨rfl, rfl, hle137⟩
      ·
       rw [if_neg (fun hh => Bool.noConfusion (hh.symm.trans hc138))] at hm
       refine t_resp 26 rfl (v' := .bool false) (by rw [hc138] <;> rfl) ?_
       refine t_st rfl (st_pick_f rfl rfl) ?_
       refine t_mv rfl rfl ?_
       refine t_yes 28 rfl rfl rfl ?_
       refine t_mv rfl rfl ?_
       refine t_yes 28 rfl rfl rfl ?_
       refine t_st rfl (st_loadD (vs := [_, _, _, _]) 1 4 rfl agg42 rfl rfl rfl) ?_
       refine t_yes 28 rfl rfl rfl ?_
       refine t_st rfl (st_loadD (vs := [_, _, _, _]) 2 4 rfl agg42 rfl rfl rfl) ?_
       refine t_yes 28 rfl rfl rfl ?_
       obtain ⟨x139, hcl140, hm⟩ := bindS hm
       refine t_callvG #[] #[.pointer (some ⟨g87, 0, none⟩)] [.agg #[.int .i64 (s2.Kind), .int .i64 (s2.Place), .int .i64 (s2.Position), .int .i64 (s2.At)], .agg #[.int .i64 (s1.Kind), .int .i64 (s1.Place), .int .i64 (s1.Position), .int .i64 (s1.At)]] rfl rfl call54 rfl (cLineMeets_2 _ _ s2 s1 g87 x139 hcl140) ?_
       rintro _ b141 _ hle142 ⟨rfl, rfl⟩
       rcases Bool.eq_false_or_eq_true x139 with hc143 | hc143
       ·
        rw [if_pos hc143] at hm
        refine t_resp 32 rfl (v' := .bool true) (by rw [hc143] <;> rfl) ?_
        refine t_st rfl (st_pick_f rfl rfl) ?_
        refine t_mv rfl rfl ?_
        refine t_no 34 rfl rfl rfl rfl rfl ?_
        refine t_no 34 rfl rfl rfl rfl rfl ?_
        refine t_no 34 rfl rfl rfl rfl rfl ?_
        refine t_no 34 rfl rfl rfl rfl rfl ?_
        refine t_st rfl (st_pick_t rfl rfl) ?_
        refine t_mv rfl rfl ?_
        refine t_no 40 rfl rfl rfl rfl rfl ?_
        refine t_no 40 rfl rfl rfl rfl rfl ?_
        refine t_no 40 rfl rfl rfl rfl rfl ?_
        refine t_no 40 rfl rfl rfl rfl rfl ?_
        refine t_st rfl (st_pick_t rfl rfl) ?_
        refine t_as rfl rfl ?_
        refine t_nil ?_
        obtain rfl := some1 hm
        exact x_join (e' := [(4, .bool (true))]) ⟨rfl, trivial⟩ (.cons _ (.cons _ (.cons _ (.refl _)))) ⟨rfl, rfl, (hle137.trans hle142)⟩
       ·
        rw [if_neg (fun hh => Bool.noConfusion (hh.symm.trans hc143))] at hm
        refine t_resp 32 rfl (v' := .bool false) (by rw [hc143] <;> rfl) ?_
        refine t_st rfl (st_pick_f rfl rfl) ?_
        refine t_mv rfl rfl ?_
        refine t_yes 34 rfl rfl rfl ?_
        refine t_mv rfl rfl ?_
        refine t_yes 34 rfl rfl rfl ?_
        refine t_st rfl (st_loadD (vs := [_, _, _, _]) 2 4 rfl agg42 rfl rfl rfl) ?_
        refine t_yes 34 rfl rfl rfl ?_
        refine t_st rfl (st_loadD (vs := [_, _, _, _]) 1 4 rfl agg42 rfl rfl rfl) ?_
        refine t_yes 34 rfl rfl rfl ?_
        obtain ⟨x144, hcl145, hm⟩ := bindS hm
        refine t_do rfl (u_callvW0 #[] #[] [.agg #[.int .i64 (s1.Kind), .int .i64 (s1.Place), .int .i64 (s1.Position), .int .i64 (s1.At)], .agg #[.int .i64 (s2.Kind), .int .i64 (s2.Place), .int .i64 (s2.Position), .int .i64 (s2.At)]] rfl call55 rfl (fun w ho => cLineMeets_3 _ [] s1 s2 x144 hcl145) (fun _ _ _ h => h.2.symm)) ?_
        rintro _ _ ⟨⟨_, rfl, _⟩, rfl⟩
        rcases Bool.eq_false_or_eq_true x144 with hc146 | hc146
        ·
         rw [if_pos hc146] at hm
         refine t_resp 38 rfl (v' := .bool true) (by rw [hc146] <;> rfl) ?_
         refine t_st rfl (st_pick_f rfl rfl) ?_
         refine t_mv rfl rfl ?_
         refine t_no 40 rfl rfl rfl rfl rfl ?_
         refine t_no 40 rfl rfl rfl rfl rfl ?_
         refine t_no 40 rfl rfl rfl rfl rfl ?_
         refine t_no 40 rfl rfl rfl rfl rfl ?_
         refine t_st rfl (st_pick_t rfl rfl) ?_
         refine t_as rfl rfl ?_
         refine t_nil ?_
         obtain rfl := some1 hm
         exact x_join (e' := [(4, .bool (true))]) ⟨rfl, trivial⟩ (.cons _ (.cons _ (.cons _ (.refl _)))) ⟨rfl, rfl, (hle137.trans hle142)⟩
        ·
         rw [if_neg (fun hh => Bool.noConfusion (hh.symm.trans hc146))] at hm
         refine t_resp 38 rfl (v' := .bool false) (by rw [hc146] <;> rfl) ?_
         refine t_st rfl (st_pick_f rfl rfl) ?_
         refine t_mv rfl rfl ?_
         refine t_yes 40 rfl rfl rfl ?_
         refine t_mv rfl rfl ?_
         refine t_yes 40 rfl rfl rfl ?_
         refine t_st rfl (st_loadD (vs := [_, _, _, _]) 1 4 rfl agg42 rfl rfl rfl) ?_
         refine t_yes 40 rfl rfl rfl ?_
         refine t_st rfl (st_loadD (vs := [_, _, _, _]) 2 4 rfl agg42 rfl rfl rfl) ?_
         refine t_yes 40 rfl rfl rfl ?_
         obtain ⟨x147, hcl148, hm⟩ := bindS hm
         refine t_do rfl (u_callvW0 #[] #[] [.agg #[.int .i64 (s2.Kind), .int .i64 (s2.Place), .int .i64 (s2.Position), .int .i64 (s2.At)], .agg #[.int .i64 (s1.Kind), .int .i64 (s1.Place), .int .i64 (s1.Position), .int .i64 (s1.At)]] rfl call55 rfl (fun w ho => cLineMeets_3 _ [] s2 s1 x147 hcl148) (fun _ _ _ h => h.2.symm)) ?_
         rintro _ _ ⟨⟨_, rfl, _⟩, rfl⟩
         refine t_st rfl (st_pick_f rfl rfl) ?_
         refine t_as rfl rfl ?_
         refine t_nil ?_
         obtain rfl := some1 hm
         exact x_join (e' := [(4, .bool (x147))]) ⟨rfl, trivial⟩ (.cons _ (.cons _ (.cons _ (.refl _)))) ⟨rfl, rfl, (hle137.trans hle142)⟩
    ·
     rw [if_neg (fun hh => Bool.noConfusion (hh.symm.trans hc130))] at hm
     refine t_resp 16 rfl (v' := .bool false) (by rw [hc130] <;> rfl) ?_
     refine t_mv rfl rfl ?_
     refine t_no 17 rfl rfl rfl rfl rfl ?_
     refine t_no 17 rfl rfl rfl rfl rfl ?_
     refine t_no 17 rfl rfl rfl rfl rfl ?_
     refine t_st rfl (st_pick_f rfl rfl) ?_
     refine t_mv rfl rfl ?_
     refine t_yes 22 rfl rfl rfl ?_
     refine t_mv rfl rfl ?_
     refine t_yes 22 rfl rfl rfl ?_
     refine t_st rfl (st_loadD (vs := [_, _, _, _]) 2 4 rfl agg42 rfl rfl rfl) ?_
     refine t_yes 22 rfl rfl rfl ?_
     refine t_st rfl (st_loadD (vs := [_, _, _, _]) 1 4 rfl agg42 rfl rfl rfl) ?_
     refine t_yes 22 rfl rfl rfl ?_
     obtain ⟨x149, hcl150, hm⟩ := bindS hm
     refine t_callvG #[] #[.pointer (some ⟨g87, 0, none⟩)] [.agg #[.int .i64 (s1.Kind), .int .i64 (s1.Place), .int .i64 (s1.Position), .int .i64 (s1.At)], .agg #[.int .i64 (s2.Kind), .int .i64 (s2.Place), .int .i64 (s2.Position), .int .i64 (s2.At)]] rfl rfl call54 rfl (cLineMeets_2 _ _ s1 s2 g87 x149 hcl150) ?_
     rintro _ b151 _ hle152 ⟨rfl, rfl⟩
     rcases Bool.eq_false_or_eq_true x149 with hc153 | hc153
     ·
      rw [if_pos hc153] at hm
      refine t_resp 26 rfl (v' := .bool true) (by rw [hc153] <;> rfl) ?_
      refine t_st rfl (st_pick_f rfl rfl) ?_
      refine t_mv rfl rfl ?_
      refine t_no 28 rfl rfl rfl rfl rfl ?_
      refine t_no 28 rfl rfl rfl rfl rfl ?_
      refine t_no 28 rfl rfl rfl rfl rfl ?_
      refine t_no 28 rfl rfl rfl rfl rfl ?_
      refine t_st rfl (st_pick_t rfl rfl) ?_
      refine t_mv rfl rfl ?_
      refine t_no 34 rfl rfl rfl rfl rfl ?_
      refine t_no 34 rfl rfl rfl rfl rfl ?_
      refine t_no 34 rfl rfl rfl rfl rfl ?_
      refine t_no 34 rfl rfl rfl rfl rfl ?_
      refine t_st rfl (st_pick_t rfl rfl) ?_
      refine t_mv rfl rfl ?_
      refine t_no 40 rfl rfl rfl rfl rfl ?_
      refine t_no 40 rfl rfl rfl rfl rfl ?_
      refine t_no 40 rfl rfl rfl rfl rfl ?_
      refine t_no 40 rfl rfl rfl rfl rfl ?_
      refine t_st rfl (st_pick_t rfl rfl) ?_
      refine t_as rfl rfl ?_
      refine t_nil ?_
      obtain rfl := some1 hm
      exact x_join (e' := [(4, .bool (true))]) ⟨rfl, trivial⟩ (.cons _ (.cons _ (.cons _ (.refl _)))) ⟨rfl, rfl, hle152⟩
     ·
      rw [if_neg (fun hh => Bool.noConfusion (hh.symm.trans hc153))] at hm
      refine t_resp 26 rfl (v' := .bool false) (by rw [hc153] <;> rfl) ?_
      refine t_st rfl (st_pick_f rfl rfl) ?_
      refine t_mv rfl rfl ?_
      refine t_yes 28 rfl rfl rfl ?_
      refine t_mv rfl rfl ?_
      refine t_yes 28 rfl rfl rfl ?_
      refine t_st rfl (st_loadD (vs := [_, _, _, _]) 1 4 rfl agg42 rfl rfl rfl) ?_
      refine t_yes 28 rfl rfl rfl ?_
      refine t_st rfl (st_loadD (vs := [_, _, _, _]) 2 4 rfl agg42 rfl rfl rfl) ?_
      refine t_yes 28 rfl rfl rfl ?_
      obtain ⟨x154, hcl155, hm⟩ := bindS hm
      refine t_callvG #[] #[.pointer (some ⟨g87, 0, none⟩)] [.agg #[.int .i64 (s2.Kind), .int .i64 (s2.Place), .int .i64 (s2.Position), .int .i64 (s2.At)], .agg #[.int .i64 (s1.Kind), .int .i64 (s1.Place), .int .i64 (s1.Position), .int .i64 (s1.At)]] rfl rfl call54 rfl (cLineMeets_2 _ _ s2 s1 g87 x154 hcl155) ?_
      rintro _ b156 _ hle157 ⟨rfl, rfl⟩
      rcases Bool.eq_false_or_eq_true x154 with hc158 | hc158
      ·
       rw [if_pos hc158] at hm
       refine t_resp 32 rfl (v' := .bool true) (by rw [hc158] <;> rfl) ?_
       refine t_st rfl (st_pick_f rfl rfl) ?_
       refine t_mv rfl rfl ?_
       refine t_no 34 rfl rfl rfl rfl rfl ?_
       refine t_no 34 rfl rfl rfl rfl rfl ?_
       refine t_no 34 rfl rfl rfl rfl rfl ?_
       refine t_no 34 rfl rfl rfl rfl rfl ?_
       refine t_st rfl (st_pick_t rfl rfl) ?_
       refine t_mv rfl rfl ?_
       refine t_no 40 rfl rfl rfl rfl rfl ?_
       refine t_no 40 rfl rfl rfl rfl rfl ?_
       refine t_no 40 rfl rfl rfl rfl rfl ?_
       refine t_no 40 rfl rfl rfl rfl rfl ?_
       refine t_st rfl (st_pick_t rfl rfl) ?_
       refine t_as rfl rfl ?_
       refine t_nil ?_
       obtain rfl := some1 hm
       exact x_join (e' := [(4, .bool (true))]) ⟨rfl, trivial⟩ (.cons _ (.cons _ (.cons _ (.refl _)))) ⟨rfl, rfl, (hle152.trans hle157)⟩
      ·
       rw [if_neg (fun hh => Bool.noConfusion (hh.symm.trans hc158))] at hm
       refine t_resp 32 rfl (v' := .bool false) (by rw [hc158] <;> rfl) ?_
       refine t_st rfl (st_pick_f rfl rfl) ?_
       refine t_mv rfl rfl ?_
       refine t_yes 34 rfl rfl rfl ?_
       refine t_mv rfl rfl ?_
       refine t_yes 34 rfl rfl rfl ?_
       refine t_st rfl (st_loadD (vs := [_, _, _, _]) 2 4 rfl agg42 rfl rfl rfl) ?_
       refine t_yes 34 rfl rfl rfl ?_
       refine t_st rfl (st_loadD (vs := [_, _, _, _]) 1 4 rfl agg42 rfl rfl rfl) ?_
       refine t_yes 34 rfl rfl rfl ?_
       obtain ⟨x159, hcl160, hm⟩ := bindS hm
       refine t_do rfl (u_callvW0 #[] #[] [.agg #[.int .i64 (s1.Kind), .int .i64 (s1.Place), .int .i64 (s1.Position), .int .i64 (s1.At)], .agg #[.int .i64 (s2.Kind), .int .i64 (s2.Place), .int .i64 (s2.Position), .int .i64 (s2.At)]] rfl call55 rfl (fun w ho => cLineMeets_3 _ [] s1 s2 x159 hcl160) (fun _ _ _ h => h.2.symm)) ?_
       rintro _ _ ⟨⟨_, rfl, _⟩, rfl⟩
       rcases Bool.eq_false_or_eq_true x159 with hc161 | hc161
       ·
        rw [if_pos hc161] at hm
        refine t_resp 38 rfl (v' := .bool true) (by rw [hc161] <;> rfl) ?_
        refine t_st rfl (st_pick_f rfl rfl) ?_
        refine t_mv rfl rfl ?_
        refine t_no 40 rfl rfl rfl rfl rfl ?_
        refine t_no 40 rfl rfl rfl rfl rfl ?_
        refine t_no 40 rfl rfl rfl rfl rfl ?_
        refine t_no 40 rfl rfl rfl rfl rfl ?_
        refine t_st rfl (st_pick_t rfl rfl) ?_
        refine t_as rfl rfl ?_
        refine t_nil ?_
        obtain rfl := some1 hm
        exact x_join (e' := [(4, .bool (true))]) ⟨rfl, trivial⟩ (.cons _ (.cons _ (.cons _ (.refl _)))) ⟨rfl, rfl, (hle152.trans hle157)⟩
       ·
        rw [if_neg (fun hh => Bool.noConfusion (hh.symm.trans hc161))] at hm
        refine t_resp 38 rfl (v' := .bool false) (by rw [hc161] <;> rfl) ?_
        refine t_st rfl (st_pick_f rfl rfl) ?_
        refine t_mv rfl rfl ?_
        refine t_yes 40 rfl rfl rfl ?_
        refine t_mv rfl rfl ?_
        refine t_yes 40 rfl rfl rfl ?_
        refine t_st rfl (st_loadD (vs := [_, _, _, _]) 1 4 rfl agg42 rfl rfl rfl) ?_
        refine t_yes 40 rfl rfl rfl ?_
        refine t_st rfl (st_loadD (vs := [_, _, _, _]) 2 4 rfl agg42 rfl rfl rfl) ?_
        refine t_yes 40 rfl rfl rfl ?_
        obtain ⟨x162, hcl163, hm⟩ := bindS hm
        refine t_do rfl (u_callvW0 #[] #[] [.agg #[.int .i64 (s2.Kind), .int .i64 (s2.Place), .int .i64 (s2.Position), .int .i64 (s2.At)], .agg #[.int .i64 (s1.Kind), .int .i64 (s1.Place), .int .i64 (s1.Position), .int .i64 (s1.At)]] rfl call55 rfl (fun w ho => cLineMeets_3 _ [] s2 s1 x162 hcl163) (fun _ _ _ h => h.2.symm)) ?_
        rintro _ _ ⟨⟨_, rfl, _⟩, rfl⟩
        refine t_st rfl (st_pick_f rfl rfl) ?_
        refine t_as rfl rfl ?_
        refine t_nil ?_
        obtain rfl := some1 hm
        exact x_join (e' := [(4, .bool (x162))]) ⟨rfl, trivial⟩ (.cons _ (.cons _ (.cons _ (.refl _)))) ⟨rfl, rfl, (hle152.trans hle157)⟩
   ·
    rintro b124 _ _ ⟨rfl, rfl, hle125⟩
    have hm := hk127
    refine c_ret ?_
    obtain rfl := some1 hm
    exact retM (rs := [.tmp 4]) [.bool (x126)] hle125 (by decide) rfl ⟨rfl, trivial⟩ rfl (.refl _) ⟨rfl, rfl⟩

set_option maxRecDepth 20000 in
theorem cLineMeet_1_1 (b : Base) (R : Hp) (s2 : ApiNeed) (x3 : Int) (x4 : Int) (x5 : Int) (x6 : Int) (g1 : Nat) (x10 : Bool) (hm : mLineMeet_1_1 s2 x3 x4 x5 x6 = some x10) :
    CallsG Tryz.prog 32 [.agg #[.int .i64 (s2.Kind), .int .i64 (s2.Place), .int .i64 (s2.Position), .int .i64 (s2.At)], .pointer (some ⟨g1, 0, none⟩)] b ((g1, Cl 42 [.int .i64 (x3), .int .i64 (x4), .int .i64 (x5), .int .i64 (x6)]) :: R) (fun v b' hp' => .bool (x10) = v ∧ (g1, Cl 42 [.int .i64 (x3), .int .i64 (x4), .int .i64 (x5), .int .i64 (x6)]) :: R = hp') := by
  refine fn_enterG 7 Tryz.func32 rfl Tryz.ntmps32 rfl ?_
  unfold mLineMeet_1_1 at hm
  refine c_sr ?_
  refine t_do rfl (u_box _ rfl rfl) ?_
  rintro _ _ ⟨g11, rfl, rfl⟩
  refine t_as rfl rfl ?_
  refine t_ne ?_
  refine c_sr ?_
  refine t_st rfl (st_loadD (vs := [_, _, _, _]) 1 4 rfl agg42 rfl rfl rfl) ?_
  refine t_st rfl (st_loadD (vs := [_, _, _, _]) 0 4 rfl agg42 rfl rfl rfl) ?_
  obtain ⟨x12, hcl13, hm⟩ := bindS hm
  refine t_do rfl (u_callW0 _ call33 rfl (fun w ho => cLineMeets _ [] (⟨x3, x4, x5, x6⟩ : ApiNeed) s2 x12 hcl13) (fun _ _ _ h => h.2.symm)) ?_
  rintro _ _ ⟨⟨_, rfl, _⟩, rfl⟩
  refine t_as rfl rfl ?_
  refine t_ne ?_
  refine c_ret ?_
  obtain rfl := some1 hm
  refine x_pullb 1 rfl ?_
  exact retM (rs := [.tmp 3]) [.bool (x12)] (Base.Le.refl _) (by decide) rfl ⟨rfl, trivial⟩ rfl (.cons_cons _ (.cons _ (.refl _))) ⟨rfl, rfl⟩

set_option maxRecDepth 20000 in
theorem cSlicesIndexFunc_4 (b : Base) (R : Hp) (l5 : (List ApiNeed)) (x6 : Int) (x7 : Int) (x8 : Int) (x9 : Int) (g1 : Nat) (A2 : Option Addr) (c3 : Nat) (h4 : FZ rApiNeed b.w A2 c3 l5) (x50 : Int) (hm : mSlicesIndexFunc_4 l5 x6 x7 x8 x9 = some x50) :
    CallsG Tryz.prog 52 [.slice A2 (l5).length c3, .func (.func 32) #[] #[.pointer (some ⟨g1, 0, none⟩)]] b ((g1, Cl 42 [.int .i64 (x6), .int .i64 (x7), .int .i64 (x8), .int .i64 (x9)]) :: R) (fun v b' hp' => .int .i64 (x50) = v ∧ (g1, Cl 42 [.int .i64 (x6), .int .i64 (x7), .int .i64 (x8), .int .i64 (x9)]) :: R = hp') := by
  refine fn_enterG 19 Tryz.func52 rfl Tryz.ntmps52 rfl ?_
  unfold mSlicesIndexFunc_4 at hm
  refine c_sr ?_
  refine t_as rfl rfl ?_
  refine t_ne ?_
  refine c_seq ?_
  refine c_sr ?_
  refine t_mv rfl rfl ?_
  refine t_st rfl (st_len rfl sl38) ?_
  refine t_mv rfl rfl ?_
  refine t_ne ?_
  refine c_block ?_
  have hb52 : l5.length ≤ 9223372036854775807 := (FZ.bd h4)
  obtain ⟨t71, hl72, hk73⟩ := bindS hm
  refine c_forM (fun k70 => fun _ => fun b68 e' hp' => [(0, .slice A2 (l5).length c3), (1, .func (.func 32) #[] #[.pointer (some ⟨g1, 0, none⟩)]), (7, .int .i64 ((l5.length : Int))), (8, .int .i64 ((k70 : Int)))] = e' ∧ (g1, Cl 42 [.int .i64 (x6), .int .i64 (x7), .int .i64 (x8), .int .i64 (x9)]) :: R = hp' ∧ b.Le b68) hl72 (e' := [(0, .slice A2 (l5).length c3), (1, .func (.func 32) #[] #[.pointer (some ⟨g1, 0, none⟩)]), (7, .int .i64 ((l5.length : Int))), (8, .int .i64 0)]) ⟨rfl, rfl, rfl, rfl, trivial⟩ (.refl _) ⟨rfl, rfl, (Base.Le.refl _)⟩ ?_ ?_
  ·
   rintro k70 _ b68 _ _ oL51 hknL51 ⟨rfl, rfl, hle69⟩ hstepL51 houtL51
   unfold mSlicesIndexFunc_4_L51 at hstepL51
   have hm := hstepL51
   refine c_sr ?_
   refine t_st rfl (st_lss_t rfl rfl (by omega)) ?_
   refine t_ne ?_
   refine c_seq ?_
   refine c_cond_t rfl ?_
   refine c_skip ?_
   refine x_then_normal ?_
   refine c_seq ?_
   refine c_block ?_
   refine c_sr ?_
   refine t_mv rfl rfl ?_
   refine t_as rfl rfl ?_
   refine t_ne ?_
   refine c_sr ?_
   refine t_mv rfl rfl ?_
   refine t_mv rfl rfl ?_
   refine t_mv rfl rfl ?_
   obtain ⟨x74, h75, hm⟩ := bindS hm
   obtain ⟨j76, hj77, hx78⟩ := idx_some h75
   obtain ⟨cs79, hr80, hcs81, hA82, hlt83⟩ := FZ.get (sz := 4) rfl (by decide) (h4.le hle69) hx78
   obtain ⟨_, _, rfl, rfl, ⟨_, _, rfl, rfl, ⟨_, _, rfl, rfl, rfl⟩⟩⟩ := hr80
   refine t_st rfl (st_index_old j76 rfl rfl hj77 hlt83 hA82 sl38) ?_
   refine t_st rfl (st_loadN_old (vs := [.int .i64 (x74.Kind), .int .i64 (x74.Place), .int .i64 (x74.Position), .int .i64 (x74.At)]) 4 rfl agg42 hA82 rfl (fun j u hu => hcs81 j u hu)) ?_
   obtain ⟨x84, hcl85, hm⟩ := bindS hm
   refine t_callvG #[] #[.pointer (some ⟨g1, 0, none⟩)] [.agg #[.int .i64 (x74.Kind), .int .i64 (x74.Place), .int .i64 (x74.Position), .int .i64 (x74.At)]] rfl rfl call32 rfl (cLineMeet_1_1 _ _ x74 x6 x7 x8 x9 g1 x84 hcl85) ?_
   rintro _ b86 _ hle87 ⟨rfl, rfl⟩
   refine t_ne ?_
   refine c_cond _ rfl (fun hc88 => ?_) (fun hc88 => ?_)
   ·
    rw [if_pos hc88] at hm
    refine c_sr ?_
    refine t_mv rfl rfl ?_
    refine t_as rfl rfl ?_
    refine t_ne ?_
    refine c_ret ?_
    refine x_block_ret ?_
    refine x_then_ret ?_
    refine x_then_ret ?_
    refine x_block_ret ?_
    refine x_then_ret ?_
    have hq89 := houtL51 _ (Option.some.inj hm).symm
    rw [hq89] at hk73
    have hm := elimR hk73
    obtain rfl := some1 hm
    exact retM (rs := [.tmp 4]) [.int .i64 ((k70 : Int))] (hle69.trans hle87) (by decide) rfl ⟨rfl, trivial⟩ rfl (.refl _) ⟨rfl, rfl⟩
   ·
    rw [if_neg (fun hh => Bool.noConfusion (hh.symm.trans hc88))] at hm
    refine c_skip ?_
    refine x_block_normal ?_
    refine x_then_normal ?_
    refine c_region ?_
    refine t_st rfl (st_add rfl rfl (by omega)) ?_
    refine t_mv rfl rfl ?_
    refine t_nil ?_
    exact x_againM () (Option.some.inj hm).symm (e' := [(0, .slice A2 (l5).length c3), (1, .func (.func 32) #[] #[.pointer (some ⟨g1, 0, none⟩)]), (7, .int .i64 ((l5.length : Int))), (8, .int .i64 ((k70 : Int) + 1))]) ⟨rfl, rfl, rfl, rfl, trivial⟩ (.refl _) ⟨rfl, rfl, ((hle69.trans hle87))⟩
  ·
   rintro _ b68 _ _ ⟨rfl, rfl, hle69⟩ hq90
   rw [hq90] at hk73
   have hm := elimL hk73
   refine c_sr ?_
   refine t_st rfl (st_lss_f rfl rfl (by omega)) ?_
   refine t_ne ?_
   refine c_seq ?_
   refine c_cond_f rfl ?_
   refine c_exit ?_
   refine x_then_exit ?_
   refine x_then_exit ?_
   refine x_block_out ?_
   refine x_then_normal ?_
   refine c_sr ?_
   refine t_as rfl rfl ?_
   refine t_ne ?_
   refine c_ret ?_
   obtain rfl := some1 hm
   exact retM (rs := [.tmp 4]) [.int .i64 ((-1))] hle69 (by decide) rfl ⟨rfl, trivial⟩ rfl (.refl _) ⟨rfl, rfl⟩

set_option maxRecDepth 20000 in
theorem cSlicesContainsFunc_4 (b : Base) (R : Hp) (l5 : (List ApiNeed)) (x6 : Int) (x7 : Int) (x8 : Int) (x9 : Int) (g1 : Nat) (A2 : Option Addr) (c3 : Nat) (h4 : FZ rApiNeed b.w A2 c3 l5) (x14 : Bool) (hm : mSlicesContainsFunc_4 l5 x6 x7 x8 x9 = some x14) :
    CallsG Tryz.prog 30 [.slice A2 (l5).length c3, .func (.func 32) #[] #[.pointer (some ⟨g1, 0, none⟩)]] b ((g1, Cl 42 [.int .i64 (x6), .int .i64 (x7), .int .i64 (x8), .int .i64 (x9)]) :: R) (fun v b' hp' => .bool (x14) = v ∧ (g1, Cl 42 [.int .i64 (x6), .int .i64 (x7), .int .i64 (x8), .int .i64 (x9)]) :: R = hp') := by
  refine fn_enterG 9 Tryz.func30 rfl Tryz.ntmps30 rfl ?_
  unfold mSlicesContainsFunc_4 at hm
  refine c_sr ?_
  refine t_as rfl rfl ?_
  refine t_ne ?_
  refine c_sr ?_
  refine t_mv rfl rfl ?_
  refine t_mv rfl rfl ?_
  obtain ⟨x15, hcl16, hm⟩ := bindS hm
  refine t_callG _ rfl call52 rfl (cSlicesIndexFunc_4 _ _ l5 x6 x7 x8 x9 g1 A2 c3 h4 x15 hcl16) ?_
  rintro _ b17 _ hle18 ⟨rfl, rfl⟩
  refine t_st rfl (st_geq rfl rfl) ?_
  refine t_as rfl rfl ?_
  refine t_ne ?_
  refine c_ret ?_
  obtain rfl := some1 hm
  exact retM (rs := [.tmp 4]) [.bool (decide (0 ≤ x15))] hle18 (by decide) rfl ⟨rfl, trivial⟩ rfl (.refl _) ⟨rfl, rfl⟩

set_option maxRecDepth 20000 in
theorem cLineMeet_1 (b : Base) (R : Hp) (s2 : ApiNeed) (l6 : (List ApiNeed)) (g1 : Nat) (A3 : Option Addr) (c4 : Nat) (h5 : FZ rApiNeed b.w A3 c4 l6) (x12 : Bool) (hm : mLineMeet_1 s2 l6 = some x12) :
    CallsG Tryz.prog 31 [.agg #[.int .i64 (s2.Kind), .int .i64 (s2.Place), .int .i64 (s2.Position), .int .i64 (s2.At)], .pointer (some ⟨g1, 0, none⟩)] b ((g1, Cl 38 [.slice A3 (l6).length c4]) :: R) (fun v b' hp' => .bool (x12) = v ∧ (g1, Cl 38 [.slice A3 (l6).length c4]) :: R = hp') := by
  refine fn_enterG 7 Tryz.func31 rfl Tryz.ntmps31 rfl ?_
  unfold mLineMeet_1 at hm
  refine c_sr ?_
  refine t_do rfl (u_box _ rfl rfl) ?_
  rintro _ _ ⟨g13, rfl, rfl⟩
  refine t_as rfl rfl ?_
  refine t_ne ?_
  refine c_sr ?_
  refine t_st rfl (st_load 1 rfl one38 rfl rfl) ?_
  refine t_st rfl (st_func _ _ rfl rfl) ?_
  obtain ⟨x14, hcl15, hm⟩ := bindS hm
  refine t_callG _ rfl call30 rfl (cSlicesContainsFunc_4 _ _ l6 s2.Kind s2.Place s2.Position s2.At g13 A3 c4 h5 x14 hcl15) ?_
  rintro _ b16 _ hle17 ⟨rfl, rfl⟩
  refine t_as rfl rfl ?_
  refine t_ne ?_
  refine c_ret ?_
  obtain rfl := some1 hm
  refine x_pullb 1 rfl ?_
  exact retM (rs := [.tmp 3]) [.bool (x14)] hle17 (by decide) rfl ⟨rfl, trivial⟩ rfl (.cons_cons _ (.cons _ (.refl _))) ⟨rfl, rfl⟩

set_option maxRecDepth 20000 in
theorem cSlicesIndexFunc_3 (b : Base) (R : Hp) (l5 : (List ApiNeed)) (l9 : (List ApiNeed)) (g1 : Nat) (A2 : Option Addr) (c3 : Nat) (A6 : Option Addr) (c7 : Nat) (h4 : FZ rApiNeed b.w A2 c3 l5) (h8 : FZ rApiNeed b.w A6 c7 l9) (x50 : Int) (hm : mSlicesIndexFunc_3 l5 l9 = some x50) :
    CallsG Tryz.prog 52 [.slice A2 (l5).length c3, .func (.func 31) #[] #[.pointer (some ⟨g1, 0, none⟩)]] b ((g1, Cl 38 [.slice A6 (l9).length c7]) :: R) (fun v b' hp' => .int .i64 (x50) = v ∧ (g1, Cl 38 [.slice A6 (l9).length c7]) :: R = hp') := by
  refine fn_enterG 19 Tryz.func52 rfl Tryz.ntmps52 rfl ?_
  unfold mSlicesIndexFunc_3 at hm
  refine c_sr ?_
  refine t_as rfl rfl ?_
  refine t_ne ?_
  refine c_seq ?_
  refine c_sr ?_
  refine t_mv rfl rfl ?_
  refine t_st rfl (st_len rfl sl38) ?_
  refine t_mv rfl rfl ?_
  refine t_ne ?_
  refine c_block ?_
  have hb52 : l5.length ≤ 9223372036854775807 := (FZ.bd h4)
  obtain ⟨t71, hl72, hk73⟩ := bindS hm
  refine c_forM (fun k70 => fun _ => fun b68 e' hp' => [(0, .slice A2 (l5).length c3), (1, .func (.func 31) #[] #[.pointer (some ⟨g1, 0, none⟩)]), (7, .int .i64 ((l5.length : Int))), (8, .int .i64 ((k70 : Int)))] = e' ∧ (g1, Cl 38 [.slice A6 (l9).length c7]) :: R = hp' ∧ b.Le b68) hl72 (e' := [(0, .slice A2 (l5).length c3), (1, .func (.func 31) #[] #[.pointer (some ⟨g1, 0, none⟩)]), (7, .int .i64 ((l5.length : Int))), (8, .int .i64 0)]) ⟨rfl, rfl, rfl, rfl, trivial⟩ (.refl _) ⟨rfl, rfl, (Base.Le.refl _)⟩ ?_ ?_
  ·
   rintro k70 _ b68 _ _ oL51 hknL51 ⟨rfl, rfl, hle69⟩ hstepL51 houtL51
   unfold mSlicesIndexFunc_3_L51 at hstepL51
   have hm := hstepL51
   refine c_sr ?_
   refine t_st rfl (st_lss_t rfl rfl (by omega)) ?_
   refine t_ne ?_
   refine c_seq ?_
   refine c_cond_t rfl ?_
   refine c_skip ?_
   refine x_then_normal ?_
   refine c_seq ?_
   refine c_block ?_
   refine c_sr ?_
   refine t_mv rfl rfl ?_
   refine t_as rfl rfl ?_
   refine t_ne ?_
   refine c_sr ?_
   refine t_mv rfl rfl ?_
   refine t_mv rfl rfl ?_
   refine t_mv rfl rfl ?_
   obtain ⟨x74, h75, hm⟩ := bindS hm
   obtain ⟨j76, hj77, hx78⟩ := idx_some h75
   obtain ⟨cs79, hr80, hcs81, hA82, hlt83⟩ := FZ.get (sz := 4) rfl (by decide) (h4.le hle69) hx78
   obtain ⟨_, _, rfl, rfl, ⟨_, _, rfl, rfl, ⟨_, _, rfl, rfl, rfl⟩⟩⟩ := hr80
   refine t_st rfl (st_index_old j76 rfl rfl hj77 hlt83 hA82 sl38) ?_
   refine t_st rfl (st_loadN_old (vs := [.int .i64 (x74.Kind), .int .i64 (x74.Place), .int .i64 (x74.Position), .int .i64 (x74.At)]) 4 rfl agg42 hA82 rfl (fun j u hu => hcs81 j u hu)) ?_
   obtain ⟨x84, hcl85, hm⟩ := bindS hm
   refine t_callvG #[] #[.pointer (some ⟨g1, 0, none⟩)] [.agg #[.int .i64 (x74.Kind), .int .i64 (x74.Place), .int .i64 (x74.Position), .int .i64 (x74.At)]] rfl rfl call31 rfl (cLineMeet_1 _ _ x74 l9 g1 A6 c7 (h8.le hle69) x84 hcl85) ?_
   rintro _ b86 _ hle87 ⟨rfl, rfl⟩
   refine t_ne ?_
   refine c_cond _ rfl (fun hc88 => ?_) (fun hc88 => ?_)
   ·
    rw [if_pos hc88] at hm
    refine c_sr ?_
    refine t_mv rfl rfl ?_
    refine t_as rfl rfl ?_
    refine t_ne ?_
    refine c_ret ?_
    refine x_block_ret ?_
    refine x_then_ret ?_
    refine x_then_ret ?_
    refine x_block_ret ?_
    refine x_then_ret ?_
    have hq89 := houtL51 _ (Option.some.inj hm).symm
    rw [hq89] at hk73
    have hm := elimR hk73
    obtain rfl := some1 hm
    exact retM (rs := [.tmp 4]) [.int .i64 ((k70 : Int))] (hle69.trans hle87) (by decide) rfl ⟨rfl, trivial⟩ rfl (.refl _) ⟨rfl, rfl⟩
   ·
    rw [if_neg (fun hh => Bool.noConfusion (hh.symm.trans hc88))] at hm
    refine c_skip ?_
    refine x_block_normal ?_
    refine x_then_normal ?_
    refine c_region ?_
    refine t_st rfl (st_add rfl rfl (by omega)) ?_
    refine t_mv rfl rfl ?_
    refine t_nil ?_
    exact x_againM () (Option.some.inj hm).symm (e' := [(0, .slice A2 (l5).length c3), (1, .func (.func 31) #[] #[.pointer (some ⟨g1, 0, none⟩)]), (7, .int .i64 ((l5.length : Int))), (8, .int .i64 ((k70 : Int) + 1))]) ⟨rfl, rfl, rfl, rfl, trivial⟩ (.refl _) ⟨rfl, rfl, ((hle69.trans hle87))⟩
  ·
   rintro _ b68 _ _ ⟨rfl, rfl, hle69⟩ hq90
   rw [hq90] at hk73
   have hm := elimL hk73
   refine c_sr ?_
   refine t_st rfl (st_lss_f rfl rfl (by omega)) ?_
   refine t_ne ?_
   refine c_seq ?_
   refine c_cond_f rfl ?_
   refine c_exit ?_
   refine x_then_exit ?_
   refine x_then_exit ?_
   refine x_block_out ?_
   refine x_then_normal ?_
   refine c_sr ?_
   refine t_as rfl rfl ?_
   refine t_ne ?_
   refine c_ret ?_
   obtain rfl := some1 hm
   exact retM (rs := [.tmp 4]) [.int .i64 ((-1))] hle69 (by decide) rfl ⟨rfl, trivial⟩ rfl (.refl _) ⟨rfl, rfl⟩

set_option maxRecDepth 20000 in
theorem cSlicesContainsFunc_3 (b : Base) (R : Hp) (l5 : (List ApiNeed)) (l9 : (List ApiNeed)) (g1 : Nat) (A2 : Option Addr) (c3 : Nat) (A6 : Option Addr) (c7 : Nat) (h4 : FZ rApiNeed b.w A2 c3 l5) (h8 : FZ rApiNeed b.w A6 c7 l9) (x14 : Bool) (hm : mSlicesContainsFunc_3 l5 l9 = some x14) :
    CallsG Tryz.prog 30 [.slice A2 (l5).length c3, .func (.func 31) #[] #[.pointer (some ⟨g1, 0, none⟩)]] b ((g1, Cl 38 [.slice A6 (l9).length c7]) :: R) (fun v b' hp' => .bool (x14) = v ∧ (g1, Cl 38 [.slice A6 (l9).length c7]) :: R = hp') := by
  refine fn_enterG 9 Tryz.func30 rfl Tryz.ntmps30 rfl ?_
  unfold mSlicesContainsFunc_3 at hm
  refine c_sr ?_
  refine t_as rfl rfl ?_
  refine t_ne ?_
  refine c_sr ?_
  refine t_mv rfl rfl ?_
  refine t_mv rfl rfl ?_
  obtain ⟨x15, hcl16, hm⟩ := bindS hm
  refine t_callG _ rfl call52 rfl (cSlicesIndexFunc_3 _ _ l5 l9 g1 A2 c3 A6 c7 h4 h8 x15 hcl16) ?_
  rintro _ b17 _ hle18 ⟨rfl, rfl⟩
  refine t_st rfl (st_geq rfl rfl) ?_
  refine t_as rfl rfl ?_
  refine t_ne ?_
  refine c_ret ?_
  obtain rfl := some1 hm
  exact retM (rs := [.tmp 4]) [.bool (decide (0 ≤ x15))] hle18 (by decide) rfl ⟨rfl, trivial⟩ rfl (.refl _) ⟨rfl, rfl⟩

set_option maxRecDepth 20000 in
theorem cLineMeet (b : Base) (R : Hp) (l4 : (List ApiNeed)) (l8 : (List ApiNeed)) (A1 : Option Addr) (c2 : Nat) (A5 : Option Addr) (c6 : Nat) (h3 : FZ rApiNeed b.w A1 c2 l4) (h7 : FZ rApiNeed b.w A5 c6 l8) (x14 : Bool) (hm : mLineMeet l4 l8 = some x14) :
    CallsG Tryz.prog 15 [.slice A1 (l4).length c2, .slice A5 (l8).length c6] b (R) (fun v b' hp' => .bool (x14) = v ∧ R = hp') := by
  refine fn_enterG 8 Tryz.func15 rfl Tryz.ntmps15 rfl ?_
  unfold mLineMeet at hm
  refine c_sr ?_
  refine t_do rfl (u_box _ rfl rfl) ?_
  rintro _ _ ⟨g15, rfl, rfl⟩
  refine t_as rfl rfl ?_
  refine t_ne ?_
  refine c_sr ?_
  refine t_mv rfl rfl ?_
  refine t_st rfl (st_func _ _ rfl rfl) ?_
  obtain ⟨x16, hcl17, hm⟩ := bindS hm
  refine t_callG _ rfl call30 rfl (cSlicesContainsFunc_3 _ _ l4 l8 g15 A1 c2 A5 c6 h3 h7 x16 hcl17) ?_
  rintro _ b18 _ hle19 ⟨rfl, rfl⟩
  refine t_as rfl rfl ?_
  refine t_ne ?_
  refine c_ret ?_
  obtain rfl := some1 hm
  exact retM (rs := [.tmp 4]) [.bool (x16)] hle19 (by decide) rfl ⟨rfl, trivial⟩ rfl (.cons _ (.refl _)) ⟨rfl, rfl⟩

set_option maxRecDepth 20000 in
theorem cLineClash (b : Base) (R : Hp) (s1 : ApiNet) (x17 : Int) (x18 : Int) (A2 : Option Addr) (c3 : Nat) (A5 : Option Addr) (c6 : Nat) (A8 : Option Addr) (c9 : Nat) (A11 : Option Addr) (c12 : Nat) (A14 : Option Addr) (c15 : Nat) (h4 : FZ RT.str b.w A2 c3 s1.Stations) (h7 : FZ rApiSection b.w A5 c6 s1.Sections) (h10 : FZ rApiLink b.w A8 c9 s1.Links) (h13 : FZ rApiSignal b.w A11 c12 s1.Signals) (h16 : FZ rApiGate b.w A14 c15 s1.Gates) (x279 : Bool) (x280 : Int) (hm : mLineClash s1 x17 x18 = some (x279, x280)) :
    CallsG Tryz.prog 6 [.agg #[.slice A2 (s1.Stations).length c3, .slice A5 (s1.Sections).length c6, .slice A8 (s1.Links).length c9, .slice A11 (s1.Signals).length c12, .slice A14 (s1.Gates).length c15], .int .i64 (x17), .int .i64 (x18)] b (R) (fun v b' hp' => .tuple #[.bool (x279), .int .i64 (x280)] = v ∧ R = hp') := by
  refine fn_enterG 39 Tryz.func6 rfl Tryz.ntmps6 rfl ?_
  unfold mLineClash at hm
  refine c_sr ?_
  refine t_do rfl (u_box _ rfl rfl) ?_
  rintro _ _ ⟨g281, rfl, rfl⟩
  refine t_as rfl rfl ?_
  refine t_as rfl rfl ?_
  refine t_ne ?_
  refine c_sr ?_
  refine t_st rfl (st_loadD (vs := [_, _, _, _, _]) 0 5 rfl agg28 rfl rfl rfl) ?_
  refine t_mv rfl rfl ?_
  refine t_mv rfl rfl ?_
  refine t_do rfl (u_bslice (el := 3) [(0, .int .i64 (x17)), (1, .int .i64 (x18))] [.int .i64 (x17), .int .i64 (x18)] rfl (fun _ => by kernel_rfl)) ?_
  rintro _ _ ⟨g282, rfl, rfl⟩
  refine t_seg 0 [_] R rfl rfl ?_
  have h284 : OS 3 (OT.fr (RT.int .i64)) b.w (.slice (some ⟨g282, 0, none⟩) 2 2) [x17, x18] [(g282, Cl 3 [.int .i64 (x17), .int .i64 (x18)])] := OS.lit [[.int .i64 (x17)], [.int .i64 (x18)]] rfl ⟨rfl, ⟨rfl, trivial⟩⟩ rfl (by decide)
  have hnz285 : (((some ⟨g282, 0, none⟩) : Option Addr) = none ↔ [x17, x18] = []) := ⟨nofun, nofun⟩
  refine t_frz [_] [(g282, Cl 3 [.int .i64 (x17), .int .i64 (x18)])] R rfl ?_
  intro b286 hle287 hz288
  have h289 := OS.frz (l := [x17, x18]) h284 hle287.cells hz288
  obtain ⟨⟨x290, l291⟩, hcl292, hm⟩ := bindS hm
  have hm := (unc2E hm)
  refine t_callG _ rfl call14 rfl (cLineSome _ _ s1 [x17, x18] A2 c3 A5 c6 A8 c9 A11 c12 A14 c15 (some ⟨g282, 0, none⟩) 2 (h4.le hle287) (h7.le hle287) (h10.le hle287) (h13.le hle287) (h16.le hle287) h289 x290 l291 hcl292) ?_
  rintro _ b293 _ hle294 ⟨A295, c296, hs297, rfl, rfl, h298, h299⟩
  refine t_in1 [] [_] hs297 R rfl ?_
  refine t_mv rfl rfl ?_
  refine t_st rfl (st_extract rfl rfl) ?_
  refine t_st rfl (st_extract rfl rfl) ?_
  refine t_as rfl rfl ?_
  refine t_as rfl rfl ?_
  refine t_ne ?_
  refine c_seq ?_
  refine c_sr ?_
  refine t_mv rfl rfl ?_
  refine t_st rfl (st_neq rfl rfl) ?_
  refine t_ne ?_
  refine c_cond _ rfl (fun hc300 => ?_) (fun hc300 => ?_)
  ·
   rw [if_pos (of_decide_eq_true hc300)] at hm
   refine c_sr ?_
   refine t_mv rfl rfl ?_
   refine t_as rfl rfl ?_
   refine t_as rfl rfl ?_
   refine t_ne ?_
   refine c_ret ?_
   refine x_then_ret ?_
   obtain ⟨rfl, rfl⟩ := some2 hm
   exact retM (rs := [.tmp 6, .tmp 7]) [.bool (false), .int .i64 (x290)] (hle287.trans hle294) (by decide) rfl ⟨rfl, ⟨rfl, trivial⟩⟩ rfl (.cons _ (sub_skip hs297 (.refl _))) ⟨rfl, rfl⟩
  ·
   rw [if_neg (of_decide_eq_false hc300)] at hm
   refine c_skip ?_
   refine x_then_normal ?_
   obtain ⟨x421, hj422, hk422⟩ := bindS hm
   refine c_join (fun b419 e' hp' => [(6, .bool (x421)), (7, .int .i64 (0))] = e' ∧ R = hp' ∧ b293.Le b419) ?_ ?_
   ·
    have hm := hj422
    by_cases hc482 : x17 = x18
    ·
     rw [if_pos hc482] at hm
     refine D_drawI mixed (.refl _) ?_
     refine E_st 0 rfl (st_move rfl) ?_
     refine E_st 1 rfl (st_move rfl) ?_
     refine E_st 2 rfl (st_eql_t rfl rfl hc482) ?_
     refine E_st 3 rfl (st_move rfl) ?_
     refine E_no 4 24 rfl rfl rfl ?_
     refine E_no 5 24 rfl rfl rfl ?_
     refine E_no 6 24 rfl rfl rfl ?_
     refine E_no 7 24 rfl rfl rfl ?_
     refine E_no 8 24 rfl rfl rfl ?_
     refine E_no 9 24 rfl rfl rfl ?_
     refine E_no 10 24 rfl rfl rfl ?_
     refine E_no 11 24 rfl rfl rfl ?_
     refine E_no 12 24 rfl rfl rfl ?_
     refine E_no 13 24 rfl rfl rfl ?_
     refine E_no 14 24 rfl rfl rfl ?_
     refine E_no 15 24 rfl rfl rfl ?_
     refine E_no 16 24 rfl rfl rfl ?_
     refine E_st 17 rfl (st_pick_t rfl rfl) ?_
     refine E_st 18 rfl (st_assign rfl) ?_
     refine E_st 19 rfl (st_assign rfl) ?_
     refine E_out ?_
     refine D_done (by kernel_rfl) ?_
     obtain rfl := some1 hm
     exact x_join (e' := [(6, .bool (true)), (7, .int .i64 (0))]) ⟨rfl, rfl, trivial⟩ (.cons _ (sub_skip hs297 (.refl _))) ⟨rfl, rfl, (Base.Le.refl _)⟩
    ·
     rw [if_neg hc482] at hm
     obtain ⟨x483, h484, hm⟩ := bindS hm
     obtain ⟨l502, hcl503, hm⟩ := bindS hm
     obtain ⟨x511, h512, hm⟩ := bindS hm
     obtain ⟨l530, hcl531, hm⟩ := bindS hm
     obtain ⟨x539, hcl540, hm⟩ := bindS hm
     refine D_drawI mixed (.refl _) ?_
     refine E_st 0 rfl (st_move rfl) ?_
     refine E_st 1 rfl (st_move rfl) ?_
     refine E_st 2 rfl (st_eql_f rfl rfl hc482) ?_
     refine E_st 3 rfl (st_move rfl) ?_
     refine E_yes 4 24 rfl (st_loadD (vs := [_, _, _, _, _]) 0 5 rfl agg28 rfl rfl rfl) ?_
     refine E_yes 5 24 rfl (st_move rfl) ?_
     refine E_yes 6 24 rfl (st_move rfl) ?_
     obtain ⟨j485, hj486, hx487⟩ := idx_some h484
     obtain ⟨cs488, hs493, P494, P495, hq496, hr489, hcs490, hA491, hlt492, hb497, hho498⟩ := OS.get (sz := 3) rfl (by decide) h298 hx487
     obtain ⟨⟨_, _, rfl, rfl, ⟨_, _, rfl, rfl, ⟨A499, c500, rfl, h501⟩⟩⟩, rfl⟩ := hr489
     refine E_yes 7 24 rfl (st_index_old j485 rfl rfl hj486 hlt492 hA491 sl47) ?_
     refine E_yes 8 24 rfl (st_loadN_rd (vs := [.int .i64 (x483.From), .int .i64 (x483.To), .slice A499 (x483.Steps).length c500]) 3 rfl agg54 hA491 rfl (fun w ho j u hu => hcs490 w _ ho (.cons _ (List.sublist_append_left _ _)) j u hu)) ?_
     refine E_yes 10 24 rfl (st_loadD (vs := [_, _, _, _, _]) 0 5 rfl agg28 rfl rfl rfl) ?_
     refine E_yes 11 24 rfl (st_move rfl) ?_
     refine E_yes 12 24 rfl (st_move rfl) ?_
     obtain ⟨j513, hj514, hx515⟩ := idx_some h512
     obtain ⟨cs516, hs521, P522, P523, hq524, hr517, hcs518, hA519, hlt520, hb525, hho526⟩ := OS.get (sz := 3) rfl (by decide) h298 hx515
     obtain ⟨⟨_, _, rfl, rfl, ⟨_, _, rfl, rfl, ⟨A527, c528, rfl, h529⟩⟩⟩, rfl⟩ := hr517
     refine E_yes 13 24 rfl (st_index_old j513 rfl rfl hj514 hlt520 hA519 sl47) ?_
     refine E_yes 14 24 rfl (st_loadN_rd (vs := [.int .i64 (x511.From), .int .i64 (x511.To), .slice A527 (x511.Steps).length c528]) 3 rfl agg54 hA519 rfl (fun w ho j u hu => hcs518 w _ ho (.cons _ (List.sublist_append_left _ _)) j u hu)) ?_
     refine E_out ?_
     refine D_all [9] (by kernel_rfl) rfl ?_
     refine R_callGlY (Base.Le.refl _) rfl rfl 24 rfl rfl rfl _ call16 rfl (cLineNeeds _ _ s1 x483 A2 c3 A5 c6 A8 c9 A11 c12 A14 c15 A499 c500 (h4.le (hle287.trans hle294)) (h7.le (hle287.trans hle294)) (h10.le (hle287.trans hle294)) (h13.le (hle287.trans hle294)) (h16.le (hle287.trans hle294)) h501 l502 hcl503) ?_ ?_
     ·
      rintro _ b504 _ hle505 ⟨A506, c507, hs508, rfl, rfl, h509, h510⟩
      refine ⟨.inr (sub_skip hs508 (.refl _)), ?_⟩
      refine d_in1 [] [_] hs508 (hs297 ++ R) rfl ?_
      refine D_all [15] (by kernel_rfl) rfl ?_
      refine R_callGlY hle505 rfl rfl 24 rfl rfl rfl _ call16 rfl (cLineNeeds _ _ s1 x511 A2 c3 A5 c6 A8 c9 A11 c12 A14 c15 A527 c528 (h4.le (hle287.trans (hle294.trans hle505))) (h7.le (hle287.trans (hle294.trans hle505))) (h10.le (hle287.trans (hle294.trans hle505))) (h13.le (hle287.trans (hle294.trans hle505))) (h16.le (hle287.trans (hle294.trans hle505))) (h529.le hle505) l530 hcl531) ?_ ?_
      ·
       rintro _ b532 _ hle533 ⟨A534, c535, hs536, rfl, rfl, h537, h538⟩
       refine ⟨.inr (sub_skip hs536 (.cons_cons _ (sub_skip hs508 (.refl _)))), ?_⟩
       refine d_in1 [] [_] hs536 (hs508 ++ (hs297 ++ R)) rfl ?_
       refine D_all [16] (by kernel_rfl) rfl ?_
       refine R_doY (hle505.trans hle533) rfl rfl 24 rfl rfl rfl (u_callW0 _ call15 rfl (fun w ho => cLineMeet _ [] l502 l530 A506 c507 A534 c535 (OS.now (o := (OT.fr rApiNeed)) (l := l502) (hs := hs508) (h509.le hle533) ho (.cons _ (sub_skip hs536 (List.sublist_append_left _ _)))) (OS.now (o := (OT.fr rApiNeed)) (l := l530) (hs := hs536) h537 ho (.cons _ (List.sublist_append_left _ _))) x539 hcl540) (fun _ _ _ h => h.2.symm)) ?_ ?_
       ·
        rintro _ _ ⟨⟨_, rfl, _⟩, rfl⟩
        refine ⟨.inr (.cons_cons _ (sub_skip hs536 (sub_skip hs508 (.refl _)))), ?_⟩
        refine D_st (hle505.trans hle533) 17 rfl (by kernel_rfl) (by kernel_rfl) (by kernel_rfl) rfl (st_pick_f rfl rfl) (.cons_cons _ (sub_skip hs536 (sub_skip hs508 (.refl _)))) ?_
        refine D_st (hle505.trans hle533) 18 rfl (by kernel_rfl) (by kernel_rfl) (by kernel_rfl) rfl (st_assign rfl) (.cons_cons _ (sub_skip hs536 (sub_skip hs508 (.refl _)))) ?_
        refine D_st (hle505.trans hle533) 19 rfl (by kernel_rfl) (by kernel_rfl) (by kernel_rfl) rfl (st_assign rfl) (.cons_cons _ (sub_skip hs536 (sub_skip hs508 (.refl _)))) ?_
        refine D_done (by kernel_rfl) ?_
        obtain rfl := some1 hm
        exact x_join (e' := [(6, .bool (x539)), (7, .int .i64 (0))]) ⟨rfl, rfl, trivial⟩ (.cons _ (sub_skip hs536 (sub_skip hs508 (sub_skip hs297 (.refl _))))) ⟨rfl, rfl, (hle505.trans hle533)⟩
       exact R_nil
      exact R_nil
     exact R_nil
   ·
    rintro b419 _ _ ⟨rfl, rfl, hle420⟩
    have hm := hk422
    refine c_ret ?_
    obtain ⟨rfl, rfl⟩ := some2 hm
    exact retM (rs := [.tmp 6, .tmp 7]) [.bool (x421), .int .i64 (0)] (hle287.trans (hle294.trans hle420)) (by decide) rfl ⟨rfl, ⟨rfl, trivial⟩⟩ rfl (.refl _) ⟨rfl, rfl⟩

set_option maxRecDepth 20000 in
theorem cLineTable (b : Base) (R : Hp) (s1 : ApiNet) (A2 : Option Addr) (c3 : Nat) (A5 : Option Addr) (c6 : Nat) (A8 : Option Addr) (c9 : Nat) (A11 : Option Addr) (c12 : Nat) (A14 : Option Addr) (c15 : Nat) (h4 : FZ RT.str b.w A2 c3 s1.Stations) (h7 : FZ rApiSection b.w A5 c6 s1.Sections) (h10 : FZ rApiLink b.w A8 c9 s1.Links) (h13 : FZ rApiSignal b.w A11 c12 s1.Signals) (h16 : FZ rApiGate b.w A14 c15 s1.Gates) (x2408 : Int) (l2409 : (List ApiRow)) (hm : mLineTable s1 = some (x2408, l2409)) :
    CallsG Tryz.prog 7 [.agg #[.slice A2 (s1.Stations).length c3, .slice A5 (s1.Sections).length c6, .slice A8 (s1.Links).length c9, .slice A11 (s1.Signals).length c12, .slice A14 (s1.Gates).length c15]] b (R) (fun v b' hp' => ∃ (A2405 : Option Addr), ∃ (c2406 : Nat), ∃ (hs2404 : Hp), .tuple #[.slice A2405 (l2409).length c2406, .int .i64 (x2408)] = v ∧ (hs2404 ++ R) = hp' ∧ OS 40 (OT.catR (RT.on (RT.list rApiNeed) ApiRow.Needs) (OT.on (OT.list 3 (OT.fr (RT.int .i64))) ApiRow.Clashes)) b'.w (.slice A2405 l2409.length c2406) l2409 hs2404) := by
  refine fn_enterG 78 Tryz.func7 rfl Tryz.ntmps7 rfl ?_
  unfold mLineTable at hm
  refine c_sr ?_
  refine t_do rfl (u_box _ rfl rfl) ?_
  rintro _ _ ⟨g2410, rfl, rfl⟩
  refine t_as rfl rfl ?_
  refine t_as rfl rfl ?_
  refine t_ne ?_
  refine c_sr ?_
  refine t_st rfl (st_loadD (vs := [_, _, _, _, _]) 0 5 rfl agg28 rfl rfl rfl) ?_
  obtain ⟨⟨x2411, l2412⟩, hcl2413, hm⟩ := bindS hm
  have hm := (unc2E hm)
  refine t_callG _ rfl call10 rfl (cLineRoutes _ _ s1 A2 c3 A5 c6 A8 c9 A11 c12 A14 c15 h4 h7 h10 h13 h16 x2411 l2412 hcl2413) ?_
  rintro _ b2414 _ hle2415 ⟨A2416, c2417, hs2418, rfl, rfl, h2419, h2420⟩
  refine t_in1 [] [_] hs2418 R rfl ?_
  refine t_mv rfl rfl ?_
  refine t_st rfl (st_extract rfl rfl) ?_
  refine t_st rfl (st_extract rfl rfl) ?_
  refine t_as rfl rfl ?_
  refine t_as rfl rfl ?_
  refine t_ne ?_
  refine c_seq ?_
  refine c_sr ?_
  refine t_mv rfl rfl ?_
  refine t_st rfl (st_neq rfl rfl) ?_
  refine t_ne ?_
  refine c_cond _ rfl (fun hc2421 => ?_) (fun hc2421 => ?_)
  ·
   rw [if_pos (of_decide_eq_true hc2421)] at hm
   refine c_sr ?_
   refine t_mv rfl rfl ?_
   refine t_as rfl rfl ?_
   refine t_as rfl rfl ?_
   refine t_ne ?_
   refine c_ret ?_
   refine x_then_ret ?_
   obtain ⟨rfl, rfl⟩ := some2 hm
   exact retM (rs := [.tmp 2, .tmp 3]) [.slice none 0 0, .int .i64 (x2411)] hle2415 (by decide) rfl ⟨rfl, ⟨rfl, trivial⟩⟩ rfl (.cons _ (sub_skip hs2418 (.refl _))) ⟨none, 0, [], rfl, rfl, OS.nil⟩
  ·
   rw [if_neg (of_decide_eq_false hc2421)] at hm
   refine c_skip ?_
   refine x_then_normal ?_
   refine c_sr ?_
   refine t_mv rfl rfl ?_
   refine t_st rfl (st_len rfl sl47) ?_
   obtain ⟨m2422, h2423, hm⟩ := bindS hm
   have h2423 := mkLen_some h2423
   refine t_do rfl (u_mkOO (o := (OT.catR (RT.on (RT.list rApiNeed) ApiRow.Needs) (OT.on (OT.list 3 (OT.fr (RT.int .i64))) ApiRow.Clashes))) [_] (hs2418 ++ R) [.slice none 0 0, .slice none 0 0] (⟨([] : List ApiNeed), ([] : List Int)⟩ : ApiRow) m2422 rfl h2423.1 rfl rfl sl33 inf40 rfl rfl rfl (by decide) ⟨[.slice none 0 0], _, rfl, (RT.list_mk FZ.nil), ⟨_, rfl, OS.nil⟩⟩ h2423.2.1 h2423.2.2) ?_
   rintro _ _ ⟨hs2424, rfl, h2425⟩
   obtain ⟨A2426, c2427, rfl, _⟩ := h2425.form
   refine t_as rfl rfl ?_
   refine t_ne ?_
   refine c_seq ?_
   refine c_sr ?_
   refine t_mv rfl rfl ?_
   refine t_st rfl (st_len rfl sl47) ?_
   refine t_mv rfl rfl ?_
   refine t_ne ?_
   refine c_block ?_
   have hb2429 : l2412.length ≤ 9223372036854775807 := (OS.len h2419)
   refine c_front2 [_] hs2424 hs2418 R rfl ?_
   refine c_front2 [_] hs2418 hs2424 R rfl ?_
   obtain ⟨l2564, hl2567, hk2568⟩ := bindS hm
   refine c_forS (fun k2566 => fun l2564 => fun b2559 e' hp' => ∃ (hs2562 : Hp), [(1, .pointer (some ⟨g2410, 0, none⟩)), (6, .slice A2426 (l2564).length c2427), (22, .slice A2416 (l2412).length c2417), (23, .int .i64 ((l2412.length : Int))), (24, .int .i64 ((k2566 : Int)))] = e' ∧ (g2410, Cl 28 [.slice A2 (s1.Stations).length c3, .slice A5 (s1.Sections).length c6, .slice A8 (s1.Links).length c9, .slice A11 (s1.Signals).length c12, .slice A14 (s1.Gates).length c15]) :: (hs2562 ++ (hs2418 ++ R)) = hp' ∧ b2414.Le b2559 ∧ OS 40 (OT.catR (RT.on (RT.list rApiNeed) ApiRow.Needs) (OT.on (OT.list 3 (OT.fr (RT.int .i64))) ApiRow.Clashes)) b2559.w (.slice A2426 l2564.length c2427) l2564 hs2562 ∧ l2564.length = m2422) hl2567 (e' := [(1, .pointer (some ⟨g2410, 0, none⟩)), (6, .slice A2426 (List.replicate m2422 ((⟨([] : List ApiNeed), ([] : List Int)⟩ : ApiRow) : ApiRow)).length c2427), (22, .slice A2416 (l2412).length c2417), (23, .int .i64 ((l2412.length : Int))), (24, .int .i64 0)]) ⟨rfl, rfl, rfl, rfl, rfl, trivial⟩ (.refl _) ⟨hs2424, rfl, rfl, (Base.Le.refl _), h2425, List.length_replicate⟩ ?_ ?_
   ·
    rintro k2566 l2564 b2559 _ _ oL2428 hknL2428 ⟨hs2562, rfl, rfl, hle2560, h2563, hln2565⟩ hstepL2428
    unfold mLineTable_L2428 at hstepL2428
    have hm := hstepL2428
    refine c_sr ?_
    refine t_st rfl (st_lss_t rfl rfl (by omega)) ?_
    refine t_ne ?_
    refine c_seq ?_
    refine c_cond_t rfl ?_
    refine c_skip ?_
    refine x_then_normal ?_
    refine c_seq ?_
    refine c_block ?_
    refine c_sr ?_
    refine t_mv rfl rfl ?_
    obtain ⟨x2569, h2570, hm⟩ := bindS hm
    obtain ⟨j2571, hj2572, hx2573⟩ := idx_some h2570
    obtain ⟨cs2574, hs2579, P2580, P2581, hq2582, hr2575, hcs2576, hA2577, hlt2578, hb2583, hho2584⟩ := OS.get (sz := 3) rfl (by decide) (h2419.le hle2560) hx2573
    obtain ⟨⟨_, _, rfl, rfl, ⟨_, _, rfl, rfl, ⟨A2585, c2586, rfl, h2587⟩⟩⟩, rfl⟩ := hr2575
    refine t_st rfl (st_index_old j2571 rfl rfl hj2572 hlt2578 hA2577 sl47) ?_
    refine t_st rfl (st_loadN_rd (vs := [.int .i64 (x2569.From), .int .i64 (x2569.To), .slice A2585 (x2569.Steps).length c2586]) 3 rfl agg54 hA2577 rfl (fun w ho j u hu => hcs2576 w _ ho (.cons _ (sub_skip hs2562 (List.sublist_append_left _ _))) j u hu)) ?_
    refine t_do rfl (u_alloc [.int .i64 0, .int .i64 0, .slice none 0 0] zero54 rfl) ?_
    rintro _ _ ⟨g2588, rfl, rfl⟩
    refine t_as rfl rfl ?_
    refine t_do rfl (u_storeN (vs := [_, _, _]) 0 3 rfl rfl rfl siz54 rfl (mem_c rfl (mem_c rfl (mem_c rfl mem_n))) rfl (by simp)) ?_
    rintro _ _ rfl
    refine t_ne ?_
    refine c_region ?_
    refine t_mv rfl rfl ?_
    refine t_mv rfl rfl ?_
    refine t_st rfl (st_loadD (vs := [_, _, _, _, _]) 1 5 rfl agg28 rfl rfl rfl) ?_
    refine t_st rfl (st_loadD (vs := [_, _, _]) 0 3 rfl agg54 rfl rfl rfl) ?_
    obtain ⟨l2589, hcl2590, hm⟩ := bindS hm
    refine t_callG _ rfl call16 rfl (cLineNeeds _ _ s1 x2569 A2 c3 A5 c6 A8 c9 A11 c12 A14 c15 A2585 c2586 (h4.le (hle2415.trans hle2560)) (h7.le (hle2415.trans hle2560)) (h10.le (hle2415.trans hle2560)) (h13.le (hle2415.trans hle2560)) (h16.le (hle2415.trans hle2560)) h2587 l2589 hcl2590) ?_
    rintro _ b2591 _ hle2592 ⟨A2593, c2594, hs2595, rfl, rfl, h2596, h2597⟩
    refine t_in1 [] [_, _] hs2595 (hs2562 ++ (hs2418 ++ R)) rfl ?_
    obtain ⟨x2598, h2599, hm⟩ := bindS hm
    obtain ⟨j2600, hj2601, hx2602⟩ := idx_some h2599
    obtain ⟨cs2603, hs2608, P2609, P2610, hq2611, hr2604, hcs2605, hA2606, hlt2607, hho2612⟩ := OS.getQ (sz := 2) rfl (by decide) (h2563.le hle2592) hx2602
    obtain ⟨_, _, rfl, ⟨A2613, c2614, rfl, h2615⟩, ⟨v2616, rfl, h2617⟩⟩ := hr2604
    obtain ⟨A2618, c2619, rfl, _⟩ := h2617.form
    refine t_st rfl (st_index_old j2600 rfl rfl hj2601 hlt2607 hA2606 sl33) ?_
    refine t_st rfl (st_field_old rfl hA2606 fld40_0) ?_
    refine t_frz [_, _] hs2595 (hs2562 ++ (hs2418 ++ R)) rfl ?_
    intro b2620 hle2621 hz2622
    have h2623 := OS.frz (l := l2589) h2596 hle2621.cells hz2622
    refine t_do rfl (u_putOS hj2601 (sz := 2) (a' := (⟨l2589, x2598.Clashes⟩ : ApiRow)) rfl [_, _] (hs2418 ++ R) 0 1 [.slice A2593 (l2589).length c2594] rfl (h2563.le (hle2592.trans hle2621)) hx2602 rfl rfl rfl siz38 rfl (mem_c rfl mem_n) (fun cs hsj hh => by obtain ⟨_, _, rfl, ⟨A2626, c2627, rfl, h2628⟩, ⟨v2629, rfl, h2630⟩⟩ := hh; exact ⟨by decide, ⟨[.slice A2593 (l2589).length c2594], _, rfl, (RT.list_mk h2623), ⟨_, rfl, h2630⟩⟩⟩)) ?_
    rintro _ _ ⟨hs2624, rfl, h2625⟩
    refine t_resp 6 rfl (v' := .slice A2426 (put l2564 (k2566 : Int) (⟨l2589, x2598.Clashes⟩ : ApiRow)).length c2427) (by simp only [put_length]) ?_
    refine t_nil ?_
    refine x_block_normal ?_
    refine x_then_normal ?_
    refine c_region ?_
    refine t_st rfl (st_add rfl rfl (by omega)) ?_
    refine t_mv rfl rfl ?_
    refine t_nil ?_
    refine x_pullb 1 rfl ?_
    refine x_front2 [_, _] hs2624 hs2418 R rfl ?_
    refine x_front2 [_, _] hs2418 hs2624 R rfl ?_
    obtain rfl := some1 hm
    exact x_againS (e' := [(1, .pointer (some ⟨g2410, 0, none⟩)), (6, .slice A2426 (put l2564 (k2566 : Int) (⟨l2589, x2598.Clashes⟩ : ApiRow)).length c2427), (22, .slice A2416 (l2412).length c2417), (23, .int .i64 ((l2412.length : Int))), (24, .int .i64 ((k2566 : Int) + 1))]) ⟨rfl, rfl, rfl, rfl, rfl, trivial⟩ (.cons_cons _ (.cons _ (.refl _))) ⟨hs2624, rfl, rfl, ((hle2560.trans (hle2592.trans hle2621))), h2625, ((put_length _ _ _).trans hln2565)⟩
   ·
    rintro b2559 _ _ ⟨hs2562, rfl, rfl, hle2560, h2563, hln2565⟩
    have hm := hk2568
    refine c_sr ?_
    refine t_st rfl (st_lss_f rfl rfl (by omega)) ?_
    refine t_ne ?_
    refine c_seq ?_
    refine c_cond_f rfl ?_
    refine c_exit ?_
    refine x_then_exit ?_
    refine x_then_exit ?_
    refine x_block_out ?_
    refine x_then_normal ?_
    refine c_seq ?_
    refine c_sr ?_
    refine t_mv rfl rfl ?_
    refine t_st rfl (st_len rfl sl33) ?_
    refine t_mv rfl rfl ?_
    refine t_ne ?_
    refine c_block ?_
    have hb2632 : l2564.length ≤ 9223372036854775807 := (OS.len h2563)
    obtain ⟨l4075, hl4078, hk4079⟩ := bindS hm
    refine c_forS (fun k4077 => fun l4075 => fun b4070 e' hp' => ∃ (hs4073 : Hp), [(6, .slice A2426 (l4075).length c2427), (38, .int .i64 ((l2564.length : Int))), (39, .int .i64 ((k4077 : Int)))] = e' ∧ (hs4073 ++ R) = hp' ∧ b2559.Le b4070 ∧ OS 40 (OT.catR (RT.on (RT.list rApiNeed) ApiRow.Needs) (OT.on (OT.list 3 (OT.fr (RT.int .i64))) ApiRow.Clashes)) b4070.w (.slice A2426 l4075.length c2427) l4075 hs4073 ∧ l4075.length = m2422) hl4078 (e' := [(6, .slice A2426 (l2564).length c2427), (38, .int .i64 ((l2564.length : Int))), (39, .int .i64 0)]) ⟨rfl, rfl, rfl, trivial⟩ (.cons _ (sub_app hs2562 (sub_skip hs2418 (.refl _)))) ⟨hs2562, rfl, rfl, (Base.Le.refl _), h2563, hln2565⟩ ?_ ?_
    ·
     rintro k4077 l4075 b4070 _ _ oL2631 hknL2631 ⟨hs4073, rfl, rfl, hle4071, h4074, hln4076⟩ hstepL2631
     unfold mLineTable_L2631 at hstepL2631
     have hm := hstepL2631
     refine c_sr ?_
     refine t_st rfl (st_lss_t rfl rfl (by omega)) ?_
     refine t_ne ?_
     refine c_seq ?_
     refine c_cond_t rfl ?_
     refine c_skip ?_
     refine x_then_normal ?_
     refine c_seq ?_
     refine c_block ?_
     refine c_sr ?_
     refine t_mv rfl rfl ?_
     refine t_as rfl rfl ?_
     refine t_ne ?_
     refine c_sr ?_
     refine t_mv rfl rfl ?_
     refine t_st rfl (st_len rfl sl33) ?_
     refine t_mv rfl rfl ?_
     refine t_ne ?_
     refine c_block ?_
     have hb4081 : l4075.length ≤ 9223372036854775807 := (OS.len h4074)
     obtain ⟨l4558, hl4561, hk4562⟩ := bindS hm
     refine c_forS (fun k4560 => fun l4558 => fun b4553 e' hp' => ∃ (hs4556 : Hp), [(6, .slice A2426 (l4558).length c2427), (9, .int .i64 ((k4077 : Int))), (38, .int .i64 ((l2564.length : Int))), (39, .int .i64 ((k4077 : Int))), (43, .int .i64 ((l4075.length : Int))), (44, .int .i64 ((k4560 : Int)))] = e' ∧ (hs4556 ++ R) = hp' ∧ b4070.Le b4553 ∧ OS 40 (OT.catR (RT.on (RT.list rApiNeed) ApiRow.Needs) (OT.on (OT.list 3 (OT.fr (RT.int .i64))) ApiRow.Clashes)) b4553.w (.slice A2426 l4558.length c2427) l4558 hs4556 ∧ l4558.length = m2422) hl4561 (e' := [(6, .slice A2426 (l4075).length c2427), (9, .int .i64 ((k4077 : Int))), (38, .int .i64 ((l2564.length : Int))), (39, .int .i64 ((k4077 : Int))), (43, .int .i64 ((l4075.length : Int))), (44, .int .i64 0)]) ⟨rfl, rfl, rfl, rfl, rfl, rfl, trivial⟩ (.refl _) ⟨hs4073, rfl, rfl, (Base.Le.refl _), h4074, hln4076⟩ ?_ ?_
     ·
      rintro k4560 l4558 b4553 _ _ oL4080 hknL4080 ⟨hs4556, rfl, rfl, hle4554, h4557, hln4559⟩ hstepL4080
      unfold mLineTable_L4080 at hstepL4080
      have hm := hstepL4080
      refine c_sr ?_
      refine t_st rfl (st_lss_t rfl rfl (by omega)) ?_
      refine t_ne ?_
      refine c_seq ?_
      refine c_cond_t rfl ?_
      refine c_skip ?_
      refine x_then_normal ?_
      refine c_seq ?_
      refine c_block ?_
      refine c_sr ?_
      refine t_mv rfl rfl ?_
      refine t_as rfl rfl ?_
      refine t_ne ?_
      obtain ⟨x4659, hj4660, hk4660⟩ := bindS hm
      refine c_join (fun b4657 e' hp' => [(6, .slice A2426 (l4558).length c2427), (9, .int .i64 ((k4077 : Int))), (10, .int .i64 ((k4560 : Int))), (38, .int .i64 ((l2564.length : Int))), (39, .int .i64 ((k4077 : Int))), (43, .int .i64 ((l4075.length : Int))), (44, .int .i64 ((k4560 : Int))), (62, .bool (x4659))] = e' ∧ (hs4556 ++ R) = hp' ∧ b4553.Le b4657) ?_ ?_
      ·
       have hm := hj4660
       by_cases hc4708 : (k4077 : Int) ≠ (k4560 : Int)
       ·
        rw [if_pos hc4708] at hm
        obtain ⟨x4709, h4710, hm⟩ := bindS hm
        obtain ⟨x4731, h4732, hm⟩ := bindS hm
        obtain ⟨x4753, hcl4754, hm⟩ := bindS hm
        refine D_drawI mixed (.refl _) ?_
        refine E_st 0 rfl (st_move rfl) ?_
        refine E_st 1 rfl (st_move rfl) ?_
        refine E_st 2 rfl (st_neq_t rfl rfl hc4708) ?_
        refine E_st 3 rfl (st_move rfl) ?_
        refine E_yes 4 50 rfl (st_move rfl) ?_
        refine E_yes 5 50 rfl (st_move rfl) ?_
        obtain ⟨j4711, hj4712, hx4713⟩ := idx_some h4710
        obtain ⟨cs4714, hs4719, P4720, P4721, hq4722, hr4715, hcs4716, hA4717, hlt4718, hho4723⟩ := OS.getQ (sz := 2) rfl (by decide) h4557 hx4713
        obtain ⟨_, _, rfl, ⟨A4724, c4725, rfl, h4726⟩, ⟨v4727, rfl, h4728⟩⟩ := hr4715
        obtain ⟨A4729, c4730, rfl, _⟩ := h4728.form
        refine E_yes 6 50 rfl (st_index_old j4711 rfl rfl hj4712 hlt4718 hA4717 sl33) ?_
        refine E_yes 7 50 rfl (st_field_old rfl hA4717 fld40_0) ?_
        refine E_yes 8 50 rfl (st_load_rd rfl one38 (fun w ho => hcs4716 w _ ho (List.sublist_append_left _ _) 0 _ rfl)) ?_
        refine E_yes 9 50 rfl (st_move rfl) ?_
        refine E_yes 10 50 rfl (st_move rfl) ?_
        obtain ⟨j4733, hj4734, hx4735⟩ := idx_some h4732
        obtain ⟨cs4736, hs4741, P4742, P4743, hq4744, hr4737, hcs4738, hA4739, hlt4740, hho4745⟩ := OS.getQ (sz := 2) rfl (by decide) h4557 hx4735
        obtain ⟨_, _, rfl, ⟨A4746, c4747, rfl, h4748⟩, ⟨v4749, rfl, h4750⟩⟩ := hr4737
        obtain ⟨A4751, c4752, rfl, _⟩ := h4750.form
        refine E_yes 11 50 rfl (st_index_old j4733 rfl rfl hj4734 hlt4740 hA4739 sl33) ?_
        refine E_yes 12 50 rfl (st_field_old rfl hA4739 fld40_0) ?_
        refine E_yes 13 50 rfl (st_load_rd rfl one38 (fun w ho => hcs4738 w _ ho (List.sublist_append_left _ _) 0 _ rfl)) ?_
        refine E_out ?_
        refine D_all [14] (by kernel_rfl) rfl ?_
        refine R_doY (Base.Le.refl _) rfl rfl 50 rfl rfl rfl (u_callW0 _ call15 rfl (fun w ho => cLineMeet _ [] x4709.Needs x4731.Needs A4724 c4725 A4746 c4747 (h4726.old ho) (h4748.old ho) x4753 hcl4754) (fun _ _ _ h => h.2.symm)) ?_ ?_
        ·
         rintro _ _ ⟨⟨_, rfl, _⟩, rfl⟩
         refine ⟨.inr (.refl _), ?_⟩
         refine E_in (.refl _) ?_
         refine E_st 15 rfl (st_pick_t rfl rfl) ?_
         refine E_out ?_
         refine D_done (by kernel_rfl) ?_
         obtain rfl := some1 hm
         exact x_join (e' := [(6, .slice A2426 (l4558).length c2427), (9, .int .i64 ((k4077 : Int))), (10, .int .i64 ((k4560 : Int))), (38, .int .i64 ((l2564.length : Int))), (39, .int .i64 ((k4077 : Int))), (43, .int .i64 ((l4075.length : Int))), (44, .int .i64 ((k4560 : Int))), (62, .bool (x4753))]) ⟨rfl, rfl, rfl, rfl, rfl, rfl, rfl, rfl, trivial⟩ (.refl _) ⟨rfl, rfl, (Base.Le.refl _)⟩
        exact R_nil
       ·
        rw [if_neg hc4708] at hm
        refine D_drawI mixed (.refl _) ?_
        refine E_st 0 rfl (st_move rfl) ?_
        refine E_st 1 rfl (st_move rfl) ?_
        refine E_st 2 rfl (st_neq_f rfl rfl hc4708) ?_
        refine E_st 3 rfl (st_move rfl) ?_
        refine E_no 4 50 rfl rfl rfl ?_
        refine E_no 5 50 rfl rfl rfl ?_
        refine E_no 6 50 rfl rfl rfl ?_
        refine E_no 7 50 rfl rfl rfl ?_
        refine E_no 8 50 rfl rfl rfl ?_
        refine E_no 9 50 rfl rfl rfl ?_
        refine E_no 10 50 rfl rfl rfl ?_
        refine E_no 11 50 rfl rfl rfl ?_
        refine E_no 12 50 rfl rfl rfl ?_
        refine E_no 13 50 rfl rfl rfl ?_
        refine E_no 14 50 rfl rfl rfl ?_
        refine E_st 15 rfl (st_pick_f rfl rfl) ?_
        refine E_out ?_
        refine D_done (by kernel_rfl) ?_
        obtain rfl := some1 hm
        exact x_join (e' := [(6, .slice A2426 (l4558).length c2427), (9, .int .i64 ((k4077 : Int))), (10, .int .i64 ((k4560 : Int))), (38, .int .i64 ((l2564.length : Int))), (39, .int .i64 ((k4077 : Int))), (43, .int .i64 ((l4075.length : Int))), (44, .int .i64 ((k4560 : Int))), (62, .bool (false))]) ⟨rfl, rfl, rfl, rfl, rfl, rfl, rfl, rfl, trivial⟩ (.refl _) ⟨rfl, rfl, (Base.Le.refl _)⟩
      ·
       rintro b4657 _ _ ⟨rfl, rfl, hle4658⟩
       have hm := hk4660
       refine c_cond _ rfl (fun hc4755 => ?_) (fun hc4755 => ?_)
       ·
        rw [if_pos hc4755] at hm
        refine c_region ?_
        refine t_mv rfl rfl ?_
        refine t_mv rfl rfl ?_
        refine t_mv rfl rfl ?_
        refine t_mv rfl rfl ?_
        obtain ⟨x4756, h4757, hm⟩ := bindS hm
        obtain ⟨j4758, hj4759, hx4760⟩ := idx_some h4757
        obtain ⟨cs4761, hs4766, P4767, P4768, hq4769, hr4762, hcs4763, hA4764, hlt4765, hho4770⟩ := OS.getQ (sz := 2) rfl (by decide) (h4557.le hle4658) hx4760
        obtain ⟨_, _, rfl, ⟨A4771, c4772, rfl, h4773⟩, ⟨v4774, rfl, h4775⟩⟩ := hr4762
        obtain ⟨A4776, c4777, rfl, _⟩ := h4775.form
        refine t_st rfl (st_index_old j4758 rfl rfl hj4759 hlt4765 hA4764 sl33) ?_
        refine t_st rfl (st_field_old rfl hA4764 fld40_1) ?_
        refine t_st rfl (st_load_rd rfl one37 (fun w ho => hcs4763 w _ ho (List.sublist_append_left _ _) 1 _ rfl)) ?_
        refine t_mv rfl rfl ?_
        refine t_do rfl (u_bslice (el := 3) [(0, .int .i64 ((k4560 : Int)))] [.int .i64 ((k4560 : Int))] rfl (fun _ => by kernel_rfl)) ?_
        rintro _ _ ⟨g4778, rfl, rfl⟩
        obtain ⟨_, h4779, hm⟩ := bindS hm
        have h4779 := room_some h4779
        refine t_do rfl (u_appIn (r := (RT.int .i64)) [_] R [[.int .i64 ((k4560 : Int))]] [(k4560 : Int)] rfl (by decide) sl37 inf3 rfl rfl rfl rfl hq4769 h4775 rfl (fun w ho => Rd.own (i := 0) ho rfl) ⟨rfl, trivial⟩ h4779) ?_
        rintro _ _ ⟨hs4780, rfl, h4781⟩
        obtain ⟨A4782, c4783, rfl, _⟩ := h4781.form
        refine t_resp 6 rfl (v' := .slice A2426 (l4558).length c2427) (by simp only [put_length]) ?_
        refine t_resp 63 rfl (v' := .slice A2426 (l4558).length c2427) (by simp only [put_length]) ?_
        obtain ⟨x4784, h4785, hm⟩ := bindS hm
        obtain ⟨j4786, hj4787, hx4788⟩ := idx_some h4785
        obtain rfl : j4758 = j4786 := by omega
        refine t_st rfl (st_index_old j4758 rfl rfl hj4759 hlt4765 hA4764 sl33) ?_
        refine t_st rfl (st_field_old rfl hA4764 fld40_1) ?_
        refine t_front2 [_] hs4780 (P4767 ++ P4768) R rfl ?_
        refine t_do rfl (u_putHoleQ hj4759 (sz := 2) (a' := (⟨x4756.Needs, x4756.Clashes ++ [(k4560 : Int)]⟩ : ApiRow)) rfl [_] hs4780 R 1 1 [.slice A4782 (x4756.Clashes ++ [(k4560 : Int)]).length c4783] rfl (hho4770 _ _ (Base.Le.refl _) ⟨[.slice A4771 (x4756.Needs).length c4772], _, rfl, (RT.list_mk h4773), ⟨_, rfl, h4781⟩⟩) rfl rfl rfl siz37 rfl (by decide) (mem_c rfl mem_n)) ?_
        rintro _ _ ⟨hs4794, rfl, h4795⟩
        refine t_resp 6 rfl (v' := .slice A2426 (put l4558 (k4077 : Int) (⟨x4756.Needs, x4756.Clashes ++ [(k4560 : Int)]⟩ : ApiRow)).length c2427) (by simp only [put_length]) ?_
        refine t_nil ?_
        refine x_block_normal ?_
        refine x_then_normal ?_
        refine c_region ?_
        refine t_st rfl (st_add rfl rfl (by omega)) ?_
        refine t_mv rfl rfl ?_
        refine t_nil ?_
        obtain rfl := some1 hm
        exact x_againS (e' := [(6, .slice A2426 (put l4558 (k4077 : Int) (⟨x4756.Needs, x4756.Clashes ++ [(k4560 : Int)]⟩ : ApiRow)).length c2427), (9, .int .i64 ((k4077 : Int))), (38, .int .i64 ((l2564.length : Int))), (39, .int .i64 ((k4077 : Int))), (43, .int .i64 ((l4075.length : Int))), (44, .int .i64 ((k4560 : Int) + 1))]) ⟨rfl, rfl, rfl, rfl, rfl, rfl, trivial⟩ (.cons _ (.refl _)) ⟨hs4794, rfl, rfl, ((hle4554.trans hle4658)), h4795, ((put_length _ _ _).trans hln4559)⟩
       ·
        rw [if_neg (fun hh => Bool.noConfusion (hh.symm.trans hc4755))] at hm
        refine c_skip ?_
        refine x_block_normal ?_
        refine x_then_normal ?_
        refine c_region ?_
        refine t_st rfl (st_add rfl rfl (by omega)) ?_
        refine t_mv rfl rfl ?_
        refine t_nil ?_
        obtain rfl := some1 hm
        exact x_againS (e' := [(6, .slice A2426 (l4558).length c2427), (9, .int .i64 ((k4077 : Int))), (38, .int .i64 ((l2564.length : Int))), (39, .int .i64 ((k4077 : Int))), (43, .int .i64 ((l4075.length : Int))), (44, .int .i64 ((k4560 : Int) + 1))]) ⟨rfl, rfl, rfl, rfl, rfl, rfl, trivial⟩ (.refl _) ⟨hs4556, rfl, rfl, ((hle4554.trans hle4658)), (h4557.le hle4658), hln4559⟩
     ·
      rintro b4553 _ _ ⟨hs4556, rfl, rfl, hle4554, h4557, hln4559⟩
      have hm := hk4562
      refine c_sr ?_
      refine t_st rfl (st_lss_f rfl rfl (by omega)) ?_
      refine t_ne ?_
      refine c_seq ?_
      refine c_cond_f rfl ?_
      refine c_exit ?_
      refine x_then_exit ?_
      refine x_then_exit ?_
      refine x_block_out ?_
      refine x_block_normal ?_
      refine x_then_normal ?_
      refine c_region ?_
      refine t_st rfl (st_add rfl rfl (by omega)) ?_
      refine t_mv rfl rfl ?_
      refine t_nil ?_
      obtain rfl := some1 hm
      exact x_againS (e' := [(6, .slice A2426 (l4558).length c2427), (38, .int .i64 ((l2564.length : Int))), (39, .int .i64 ((k4077 : Int) + 1))]) ⟨rfl, rfl, rfl, trivial⟩ (.refl _) ⟨hs4556, rfl, rfl, ((hle4071.trans hle4554)), h4557, hln4559⟩
    ·
     rintro b4070 _ _ ⟨hs4073, rfl, rfl, hle4071, h4074, hln4076⟩
     have hm := hk4079
     refine c_sr ?_
     refine t_st rfl (st_lss_f rfl rfl (by omega)) ?_
     refine t_ne ?_
     refine c_seq ?_
     refine c_cond_f rfl ?_
     refine c_exit ?_
     refine x_then_exit ?_
     refine x_then_exit ?_
     refine x_block_out ?_
     refine x_then_normal ?_
     refine c_sr ?_
     refine t_mv rfl rfl ?_
     refine t_as rfl rfl ?_
     refine t_as rfl rfl ?_
     refine t_ne ?_
     refine c_ret ?_
     obtain ⟨rfl, rfl⟩ := some2 hm
     exact retM (rs := [.tmp 2, .tmp 3]) [.slice A2426 (l4075).length c2427, .int .i64 (0)] (hle2415.trans (hle2560.trans hle4071)) (by decide) rfl ⟨rfl, ⟨rfl, trivial⟩⟩ rfl (.refl _) ⟨A2426, c2427, hs4073, rfl, rfl, h4074⟩

set_option maxRecDepth 20000 in
theorem cSlicesIndex_3 (b : Base) (R : Hp) (l4 : (List Int)) (x5 : Int) (A1 : Option Addr) (c2 : Nat) (h3 : FZ (RT.int .i64) b.w A1 c2 l4) (x38 : Int) (hm : mSlicesIndex_3 l4 x5 = some x38) :
    CallsG Tryz.prog 17 [.slice A1 (l4).length c2, .int .i64 (x5)] b (R) (fun v b' hp' => .int .i64 (x38) = v ∧ R = hp') := by
  refine fn_enterG 19 Tryz.func17 rfl Tryz.ntmps17 rfl ?_
  unfold mSlicesIndex_3 at hm
  refine c_sr ?_
  refine t_as rfl rfl ?_
  refine t_ne ?_
  refine c_seq ?_
  refine c_sr ?_
  refine t_mv rfl rfl ?_
  refine t_st rfl (st_len rfl sl37) ?_
  refine t_mv rfl rfl ?_
  refine t_ne ?_
  refine c_block ?_
  have hb40 : l4.length ≤ 9223372036854775807 := (FZ.bd h3)
  obtain ⟨t55, hl56, hk57⟩ := bindS hm
  refine c_forM (fun k54 => fun _ => fun b52 e' hp' => [(0, .slice A1 (l4).length c2), (1, .int .i64 (x5)), (7, .int .i64 ((l4.length : Int))), (8, .int .i64 ((k54 : Int)))] = e' ∧ R = hp' ∧ b.Le b52) hl56 (e' := [(0, .slice A1 (l4).length c2), (1, .int .i64 (x5)), (7, .int .i64 ((l4.length : Int))), (8, .int .i64 0)]) ⟨rfl, rfl, rfl, rfl, trivial⟩ (.refl _) ⟨rfl, rfl, (Base.Le.refl _)⟩ ?_ ?_
  ·
   rintro k54 _ b52 _ _ oL39 hknL39 ⟨rfl, rfl, hle53⟩ hstepL39 houtL39
   unfold mSlicesIndex_3_L39 at hstepL39
   have hm := hstepL39
   refine c_sr ?_
   refine t_st rfl (st_lss_t rfl rfl (by omega)) ?_
   refine t_ne ?_
   refine c_seq ?_
   refine c_cond_t rfl ?_
   refine c_skip ?_
   refine x_then_normal ?_
   refine c_seq ?_
   refine c_block ?_
   refine c_sr ?_
   refine t_mv rfl rfl ?_
   refine t_as rfl rfl ?_
   refine t_ne ?_
   refine c_sr ?_
   refine t_mv rfl rfl ?_
   refine t_mv rfl rfl ?_
   refine t_mv rfl rfl ?_
   obtain ⟨x58, h59, hm⟩ := bindS hm
   obtain ⟨j60, hj61, hx62⟩ := idx_some h59
   obtain ⟨cs63, hr64, hcs65, hA66, hlt67⟩ := FZ.get (sz := 1) rfl (by decide) (h3.le hle53) hx62
   obtain rfl := hr64
   refine t_st rfl (st_index_old j60 rfl rfl hj61 hlt67 hA66 sl37) ?_
   refine t_st rfl (st_load_old rfl one3 (hcs65 0 _ rfl)) ?_
   refine t_st rfl (st_eql rfl rfl) ?_
   refine t_ne ?_
   refine c_cond _ rfl (fun hc68 => ?_) (fun hc68 => ?_)
   ·
    rw [if_pos (of_decide_eq_true hc68)] at hm
    refine c_sr ?_
    refine t_mv rfl rfl ?_
    refine t_as rfl rfl ?_
    refine t_ne ?_
    refine c_ret ?_
    refine x_block_ret ?_
    refine x_then_ret ?_
    refine x_then_ret ?_
    refine x_block_ret ?_
    refine x_then_ret ?_
    have hq69 := houtL39 _ (Option.some.inj hm).symm
    rw [hq69] at hk57
    have hm := elimR hk57
    obtain rfl := some1 hm
    exact retM (rs := [.tmp 4]) [.int .i64 ((k54 : Int))] hle53 (by decide) rfl ⟨rfl, trivial⟩ rfl (.refl _) ⟨rfl, rfl⟩
   ·
    rw [if_neg (of_decide_eq_false hc68)] at hm
    refine c_skip ?_
    refine x_block_normal ?_
    refine x_then_normal ?_
    refine c_region ?_
    refine t_st rfl (st_add rfl rfl (by omega)) ?_
    refine t_mv rfl rfl ?_
    refine t_nil ?_
    exact x_againM () (Option.some.inj hm).symm (e' := [(0, .slice A1 (l4).length c2), (1, .int .i64 (x5)), (7, .int .i64 ((l4.length : Int))), (8, .int .i64 ((k54 : Int) + 1))]) ⟨rfl, rfl, rfl, rfl, trivial⟩ (.refl _) ⟨rfl, rfl, (hle53)⟩
  ·
   rintro _ b52 _ _ ⟨rfl, rfl, hle53⟩ hq70
   rw [hq70] at hk57
   have hm := elimL hk57
   refine c_sr ?_
   refine t_st rfl (st_lss_f rfl rfl (by omega)) ?_
   refine t_ne ?_
   refine c_seq ?_
   refine c_cond_f rfl ?_
   refine c_exit ?_
   refine x_then_exit ?_
   refine x_then_exit ?_
   refine x_block_out ?_
   refine x_then_normal ?_
   refine c_sr ?_
   refine t_as rfl rfl ?_
   refine t_ne ?_
   refine c_ret ?_
   obtain rfl := some1 hm
   exact retM (rs := [.tmp 4]) [.int .i64 ((-1))] hle53 (by decide) rfl ⟨rfl, trivial⟩ rfl (.refl _) ⟨rfl, rfl⟩

set_option maxRecDepth 20000 in
theorem cSlicesContains_2 (b : Base) (R : Hp) (l4 : (List Int)) (x5 : Int) (A1 : Option Addr) (c2 : Nat) (h3 : FZ (RT.int .i64) b.w A1 c2 l4) (x8 : Bool) (hm : mSlicesContains_2 l4 x5 = some x8) :
    CallsG Tryz.prog 8 [.slice A1 (l4).length c2, .int .i64 (x5)] b (R) (fun v b' hp' => .bool (x8) = v ∧ R = hp') := by
  refine fn_enterG 9 Tryz.func8 rfl Tryz.ntmps8 rfl ?_
  unfold mSlicesContains_2 at hm
  refine c_sr ?_
  refine t_as rfl rfl ?_
  refine t_ne ?_
  refine c_sr ?_
  refine t_mv rfl rfl ?_
  refine t_mv rfl rfl ?_
  obtain ⟨x9, hcl10, hm⟩ := bindS hm
  refine t_do rfl (u_callW0 _ call17 rfl (fun w ho => cSlicesIndex_3 _ [] l4 x5 A1 c2 (h3.old ho) x9 hcl10) (fun _ _ _ h => h.2.symm)) ?_
  rintro _ _ ⟨⟨_, rfl, _⟩, rfl⟩
  refine t_st rfl (st_geq rfl rfl) ?_
  refine t_as rfl rfl ?_
  refine t_ne ?_
  refine c_ret ?_
  obtain rfl := some1 hm
  exact retM (rs := [.tmp 4]) [.bool (decide (0 ≤ x9))] (Base.Le.refl _) (by decide) rfl ⟨rfl, trivial⟩ rfl (.refl _) ⟨rfl, rfl⟩

end Go.Proofs.YtcibjjhanafojaaGreatDoor
