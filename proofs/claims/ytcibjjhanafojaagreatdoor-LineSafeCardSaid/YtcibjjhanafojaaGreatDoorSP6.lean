/- Contracts: the code computes its model (part 6). -/
import Derived.Test.YtcibjjhanafojaaGreatDoorSP5
set_option linter.unusedVariables false
set_option linter.unusedSimpArgs false
namespace Go.Proofs.YtcibjjhanafojaaGreatDoor
open Go.RowKit Go.Fp

set_option maxRecDepth 20000 in
theorem cFishkeep1LineSafe (b : Base) (R : Hp) (s1 : ApiNet) (x17 : Int) (x18 : Int) (A2 : Option Addr) (c3 : Nat) (A5 : Option Addr) (c6 : Nat) (A8 : Option Addr) (c9 : Nat) (A11 : Option Addr) (c12 : Nat) (A14 : Option Addr) (c15 : Nat) (h4 : FZ RT.str b.w A2 c3 s1.Stations) (h7 : FZ rApiSection b.w A5 c6 s1.Sections) (h10 : FZ rApiLink b.w A8 c9 s1.Links) (h13 : FZ rApiSignal b.w A11 c12 s1.Signals) (h16 : FZ rApiGate b.w A14 c15 s1.Gates) (x426 : Bool) (hm : mFishkeep1LineSafe s1 x17 x18 = some x426) :
    CallsG Tryz.prog 3 [.agg #[.slice A2 (s1.Stations).length c3, .slice A5 (s1.Sections).length c6, .slice A8 (s1.Links).length c9, .slice A11 (s1.Signals).length c12, .slice A14 (s1.Gates).length c15], .int .i64 (x17), .int .i64 (x18)] b (R) (fun v b' hp' => .bool (x426) = v ∧ R = hp') := by
  refine fn_enterG 172 Tryz.func3 rfl Tryz.ntmps3 rfl ?_
  unfold mFishkeep1LineSafe at hm
  refine c_sr ?_
  refine t_do rfl (u_box _ rfl rfl) ?_
  rintro _ _ ⟨g427, rfl, rfl⟩
  refine t_as rfl rfl ?_
  refine t_ne ?_
  refine c_seq ?_
  refine c_sr ?_
  obtain ⟨x428, hcl429, hm⟩ := bindS hm
  refine t_do rfl (u_callW0 _ call5 rfl (fun w ho => cFishkeep1AwakeLine _ [] x428 hcl429) (fun _ _ _ h => h.2.symm)) ?_
  rintro _ _ ⟨⟨_, rfl, _⟩, rfl⟩
  refine t_st rfl (st_not rfl) ?_
  refine t_ne ?_
  refine c_cond _ rfl (fun hc430 => ?_) (fun hc430 => ?_)
  ·
   rw [if_neg (fun hh => Bool.noConfusion (hh.symm.trans (notT hc430)))] at hm
   refine c_sr ?_
   refine t_as rfl rfl ?_
   refine t_ne ?_
   refine c_ret ?_
   refine x_then_ret ?_
   obtain rfl := some1 hm
   exact retM (rs := [.tmp 6]) [.bool (false)] (Base.Le.refl _) (by decide) rfl ⟨rfl, trivial⟩ rfl (.cons _ (.refl _)) ⟨rfl, rfl⟩
  ·
   rw [if_pos (notF hc430)] at hm
   refine c_skip ?_
   refine x_then_normal ?_
   refine c_sr ?_
   refine t_st rfl (st_loadD (vs := [_, _, _, _, _]) 0 5 rfl agg28 rfl rfl rfl) ?_
   refine t_mv rfl rfl ?_
   refine t_mv rfl rfl ?_
   obtain ⟨⟨x431, x432⟩, hcl433, hm⟩ := bindS hm
   have hm := (unc2E hm)
   refine t_do rfl (u_callW0 _ call6 rfl (fun w ho => cLineClash _ [] s1 x17 x18 A2 c3 A5 c6 A8 c9 A11 c12 A14 c15 (h4.old ho) (h7.old ho) (h10.old ho) (h13.old ho) (h16.old ho) x431 x432 hcl433) (fun _ _ _ h => h.2.symm)) ?_
   rintro _ _ ⟨⟨_, rfl, _⟩, rfl⟩
   refine t_mv rfl rfl ?_
   refine t_st rfl (st_extract rfl rfl) ?_
   refine t_st rfl (st_extract rfl rfl) ?_
   refine t_as rfl rfl ?_
   refine t_as rfl rfl ?_
   refine t_ne ?_
   refine c_sr ?_
   refine t_st rfl (st_loadD (vs := [_, _, _, _, _]) 0 5 rfl agg28 rfl rfl rfl) ?_
   refine t_mv rfl rfl ?_
   refine t_mv rfl rfl ?_
   obtain ⟨⟨x434, x435⟩, hcl436, hm⟩ := bindS hm
   have hm := (unc2E hm)
   refine t_do rfl (u_callW0 _ call6 rfl (fun w ho => cLineClash _ [] s1 x18 x17 A2 c3 A5 c6 A8 c9 A11 c12 A14 c15 (h4.old ho) (h7.old ho) (h10.old ho) (h13.old ho) (h16.old ho) x434 x435 hcl436) (fun _ _ _ h => h.2.symm)) ?_
   rintro _ _ ⟨⟨_, rfl, _⟩, rfl⟩
   refine t_mv rfl rfl ?_
   refine t_st rfl (st_extract rfl rfl) ?_
   refine t_st rfl (st_extract rfl rfl) ?_
   refine t_as rfl rfl ?_
   refine t_as rfl rfl ?_
   refine t_ne ?_
   refine c_seq ?_
   obtain ⟨x440, hj441, hk441⟩ := bindS hm
   refine c_join (fun b438 e' hp' => [(1, .int .i64 (x17)), (2, .int .i64 (x18)), (3, .pointer (some ⟨g427, 0, none⟩)), (7, .bool (x431)), (8, .int .i64 (x432)), (41, .bool (x440))] = e' ∧ (g427, Cl 28 [.slice A2 (s1.Stations).length c3, .slice A5 (s1.Sections).length c6, .slice A8 (s1.Links).length c9, .slice A11 (s1.Signals).length c12, .slice A14 (s1.Gates).length c15]) :: R = hp' ∧ b.Le b438) ?_ ?_
   ·
    have hm := hj441
    refine c_region ?_
    refine t_mv rfl rfl ?_
    refine t_mv rfl rfl ?_
    refine t_st rfl (st_bneq rfl rfl boo4) ?_
    rcases Bool.eq_false_or_eq_true (decide (x431 ≠ x434)) with hc442 | hc442
    ·
     rw [if_pos hc442] at hm
     refine t_resp 36 rfl (v' := .bool true) (by rw [hc442] <;> rfl) ?_
     refine t_mv rfl rfl ?_
     refine t_no 37 rfl rfl rfl rfl rfl ?_
     refine t_no 37 rfl rfl rfl rfl rfl ?_
     refine t_no 37 rfl rfl rfl rfl rfl ?_
     refine t_st rfl (st_pick_t rfl rfl) ?_
     refine t_nil ?_
     obtain rfl := some1 hm
     exact x_join (e' := [(1, .int .i64 (x17)), (2, .int .i64 (x18)), (3, .pointer (some ⟨g427, 0, none⟩)), (7, .bool (x431)), (8, .int .i64 (x432)), (41, .bool (true))]) ⟨rfl, rfl, rfl, rfl, rfl, rfl, trivial⟩ (.refl _) ⟨rfl, rfl, (Base.Le.refl _)⟩
    ·
     rw [if_neg (fun hh => Bool.noConfusion (hh.symm.trans hc442))] at hm
     refine t_resp 36 rfl (v' := .bool false) (by rw [hc442] <;> rfl) ?_
     refine t_mv rfl rfl ?_
     refine t_yes 37 rfl rfl rfl ?_
     refine t_mv rfl rfl ?_
     refine t_yes 37 rfl rfl rfl ?_
     refine t_mv rfl rfl ?_
     refine t_yes 37 rfl rfl rfl ?_
     refine t_st rfl (st_neq rfl rfl) ?_
     refine t_st rfl (st_pick_f rfl rfl) ?_
     refine t_nil ?_
     obtain rfl := some1 hm
     exact x_join (e' := [(1, .int .i64 (x17)), (2, .int .i64 (x18)), (3, .pointer (some ⟨g427, 0, none⟩)), (7, .bool (x431)), (8, .int .i64 (x432)), (41, .bool (decide (x432 ≠ x435)))]) ⟨rfl, rfl, rfl, rfl, rfl, rfl, trivial⟩ (.refl _) ⟨rfl, rfl, (Base.Le.refl _)⟩
   ·
    rintro b438 _ _ ⟨rfl, rfl, hle439⟩
    have hm := hk441
    refine c_cond _ rfl (fun hc443 => ?_) (fun hc443 => ?_)
    ·
     rw [if_pos hc443] at hm
     refine c_sr ?_
     refine t_as rfl rfl ?_
     refine t_ne ?_
     refine c_ret ?_
     refine x_then_ret ?_
     obtain rfl := some1 hm
     exact retM (rs := [.tmp 6]) [.bool (false)] hle439 (by decide) rfl ⟨rfl, trivial⟩ rfl (.cons _ (.refl _)) ⟨rfl, rfl⟩
    ·
     rw [if_neg (fun hh => Bool.noConfusion (hh.symm.trans hc443))] at hm
     refine c_skip ?_
     refine x_then_normal ?_
     refine c_seq ?_
     refine c_sr ?_
     refine t_mv rfl rfl ?_
     refine t_st rfl (st_neq rfl rfl) ?_
     refine t_ne ?_
     refine c_cond _ rfl (fun hc444 => ?_) (fun hc444 => ?_)
     ·
      rw [if_pos (of_decide_eq_true hc444)] at hm
      refine c_sr ?_
      refine t_as rfl rfl ?_
      refine t_ne ?_
      refine c_ret ?_
      refine x_then_ret ?_
      obtain rfl := some1 hm
      exact retM (rs := [.tmp 6]) [.bool (true)] hle439 (by decide) rfl ⟨rfl, trivial⟩ rfl (.cons _ (.refl _)) ⟨rfl, rfl⟩
     ·
      rw [if_neg (of_decide_eq_false hc444)] at hm
      refine c_skip ?_
      refine x_then_normal ?_
      refine c_sr ?_
      refine t_st rfl (st_loadD (vs := [_, _, _, _, _]) 0 5 rfl agg28 rfl rfl rfl) ?_
      obtain ⟨⟨x445, l446⟩, hcl447, hm⟩ := bindS hm
      have hm := (unc2E hm)
      refine t_callG _ rfl call7 rfl (cLineTable _ _ s1 A2 c3 A5 c6 A8 c9 A11 c12 A14 c15 (h4.le hle439) (h7.le hle439) (h10.le hle439) (h13.le hle439) (h16.le hle439) x445 l446 hcl447) ?_
      rintro _ b448 _ hle449 ⟨A450, c451, hs452, rfl, rfl, h453⟩
      refine t_in1 [] [_] hs452 R rfl ?_
      refine t_mv rfl rfl ?_
      refine t_st rfl (st_extract rfl rfl) ?_
      refine t_st rfl (st_extract rfl rfl) ?_
      refine t_frz [_] hs452 R rfl ?_
      intro b454 hle455 hz456
      have h457 := OS.frz (l := l446) h453 hle455.cells hz456
      refine t_as rfl rfl ?_
      refine t_as rfl rfl ?_
      refine t_ne ?_
      refine c_seq ?_
      obtain ⟨x462, hj463, hk463⟩ := bindS hm
      refine c_join (fun b460 e' hp' => [(1, .int .i64 (x17)), (2, .int .i64 (x18)), (7, .bool (x431)), (11, .slice A450 (l446).length c451), (62, .bool (x462))] = e' ∧ R = hp' ∧ b454.Le b460) ?_ ?_
      ·
       have hm := hj463
       refine c_region ?_
       refine t_mv rfl rfl ?_
       refine t_bool rfl (st_neq rfl rfl) (fun hc464 => ?_) (fun hc464 => ?_)
       ·
        rw [if_pos hc464] at hm
        refine t_mv rfl rfl ?_
        refine t_no 51 rfl rfl rfl rfl rfl ?_
        refine t_no 51 rfl rfl rfl rfl rfl ?_
        refine t_no 51 rfl rfl rfl rfl rfl ?_
        refine t_no 51 rfl rfl rfl rfl rfl ?_
        refine t_st rfl (st_pick_t rfl rfl) ?_
        refine t_mv rfl rfl ?_
        refine t_no 57 rfl rfl rfl rfl rfl ?_
        refine t_no 57 rfl rfl rfl rfl rfl ?_
        refine t_no 57 rfl rfl rfl rfl rfl ?_
        refine t_no 57 rfl rfl rfl rfl rfl ?_
        refine t_st rfl (st_pick_t rfl rfl) ?_
        refine t_nil ?_
        obtain rfl := some1 hm
        exact x_join (e' := [(1, .int .i64 (x17)), (2, .int .i64 (x18)), (7, .bool (x431)), (11, .slice A450 (l446).length c451), (62, .bool (true))]) ⟨rfl, rfl, rfl, rfl, rfl, trivial⟩ (.cons _ (.refl _)) ⟨rfl, rfl, (Base.Le.refl _)⟩
       ·
        rw [if_neg hc464] at hm
        refine t_mv rfl rfl ?_
        refine t_yes 51 rfl rfl rfl ?_
        refine t_mv rfl rfl ?_
        refine t_yes 51 rfl rfl rfl ?_
        refine t_mv rfl rfl ?_
        refine t_yes 51 rfl rfl rfl ?_
        refine t_st rfl (st_len rfl sl33) ?_
        refine t_yes 51 rfl rfl rfl ?_
        refine t_bool rfl (st_geq rfl rfl) (fun hc465 => ?_) (fun hc465 => ?_)
        ·
         rw [if_pos hc465] at hm
         refine t_st rfl (st_pick_f rfl rfl) ?_
         refine t_mv rfl rfl ?_
         refine t_no 57 rfl rfl rfl rfl rfl ?_
         refine t_no 57 rfl rfl rfl rfl rfl ?_
         refine t_no 57 rfl rfl rfl rfl rfl ?_
         refine t_no 57 rfl rfl rfl rfl rfl ?_
         refine t_st rfl (st_pick_t rfl rfl) ?_
         refine t_nil ?_
         obtain rfl := some1 hm
         exact x_join (e' := [(1, .int .i64 (x17)), (2, .int .i64 (x18)), (7, .bool (x431)), (11, .slice A450 (l446).length c451), (62, .bool (true))]) ⟨rfl, rfl, rfl, rfl, rfl, trivial⟩ (.cons _ (.refl _)) ⟨rfl, rfl, (Base.Le.refl _)⟩
        ·
         rw [if_neg hc465] at hm
         refine t_st rfl (st_pick_f rfl rfl) ?_
         refine t_mv rfl rfl ?_
         refine t_yes 57 rfl rfl rfl ?_
         refine t_mv rfl rfl ?_
         refine t_yes 57 rfl rfl rfl ?_
         refine t_mv rfl rfl ?_
         refine t_yes 57 rfl rfl rfl ?_
         refine t_st rfl (st_len rfl sl33) ?_
         refine t_yes 57 rfl rfl rfl ?_
         refine t_st rfl (st_geq rfl rfl) ?_
         refine t_st rfl (st_pick_f rfl rfl) ?_
         refine t_nil ?_
         obtain rfl := some1 hm
         exact x_join (e' := [(1, .int .i64 (x17)), (2, .int .i64 (x18)), (7, .bool (x431)), (11, .slice A450 (l446).length c451), (62, .bool (decide ((l446.length : Int) ≤ x18)))]) ⟨rfl, rfl, rfl, rfl, rfl, trivial⟩ (.cons _ (.refl _)) ⟨rfl, rfl, (Base.Le.refl _)⟩
      ·
       rintro b460 _ _ ⟨rfl, rfl, hle461⟩
       have hm := hk463
       refine c_cond _ rfl (fun hc466 => ?_) (fun hc466 => ?_)
       ·
        rw [if_pos hc466] at hm
        refine c_sr ?_
        refine t_as rfl rfl ?_
        refine t_ne ?_
        refine c_ret ?_
        refine x_then_ret ?_
        obtain rfl := some1 hm
        exact retM (rs := [.tmp 6]) [.bool (false)] (hle439.trans (hle449.trans (hle455.trans hle461))) (by decide) rfl ⟨rfl, trivial⟩ rfl (.refl _) ⟨rfl, rfl⟩
       ·
        rw [if_neg (fun hh => Bool.noConfusion (hh.symm.trans hc466))] at hm
        refine c_skip ?_
        refine x_then_normal ?_
        refine c_seq ?_
        refine c_sr ?_
        refine t_mv rfl rfl ?_
        refine t_ne ?_
        refine c_cond _ rfl (fun hc467 => ?_) (fun hc467 => ?_)
        ·
         rw [if_pos hc467] at hm
         obtain ⟨x508, hj509, hk509⟩ := bindS hm
         refine c_join (fun b506 e' hp' => [(6, .bool (x508))] = e' ∧ R = hp' ∧ b460.Le b506) ?_ ?_
         ·
          have hm := hj509
          refine c_region ?_
          refine t_mv rfl rfl ?_
          refine t_mv rfl rfl ?_
          refine t_bool rfl (st_eql rfl rfl) (fun hc510 => ?_) (fun hc510 => ?_)
          ·
           rw [if_pos hc510] at hm
           refine t_mv rfl rfl ?_
           refine t_no 67 rfl rfl rfl rfl rfl ?_
           refine t_no 67 rfl rfl rfl rfl rfl ?_
           refine t_no 67 rfl rfl rfl rfl rfl ?_
           refine t_no 67 rfl rfl rfl rfl rfl ?_
           refine t_no 67 rfl rfl rfl rfl rfl ?_
           refine t_no 67 rfl rfl rfl rfl rfl ?_
           refine t_no 67 rfl rfl rfl rfl rfl ?_
           refine t_no 67 rfl rfl rfl rfl rfl ?_
           refine t_no 75 rfl rfl rfl rfl rfl ?_
           refine t_no 75 rfl rfl rfl rfl rfl ?_
           refine t_no 75 rfl rfl rfl rfl rfl ?_
           refine t_no 75 rfl rfl rfl rfl rfl ?_
           refine t_no 75 rfl rfl rfl rfl rfl ?_
           refine t_no 75 rfl rfl rfl rfl rfl ?_
           refine t_no 75 rfl rfl rfl rfl rfl ?_
           refine t_no 67 rfl rfl rfl rfl rfl ?_
           refine t_st rfl (st_pick_t rfl rfl) ?_
           refine t_as rfl rfl ?_
           refine t_nil ?_
           obtain rfl := some1 hm
           exact x_join (e' := [(6, .bool (true))]) ⟨rfl, trivial⟩ (.refl _) ⟨rfl, rfl, (Base.Le.refl _)⟩
          ·
           rw [if_neg hc510] at hm
           refine t_mv rfl rfl ?_
           refine t_yes 67 rfl rfl rfl ?_
           refine t_mv rfl rfl ?_
           refine t_yes 67 rfl rfl rfl ?_
           refine t_mv rfl rfl ?_
           refine t_yes 67 rfl rfl rfl ?_
           obtain ⟨x511, h512, hm⟩ := bindS hm
           obtain ⟨j513, hj514, hx515⟩ := idx_some h512
           obtain ⟨cs516, hr517, hcs518, hA519, hlt520⟩ := FZ.get (sz := 2) rfl (by decide) (h457.le hle461) hx515
           obtain ⟨_, _, rfl, ⟨A521, c522, rfl, h523⟩, ⟨A524, c525, rfl, h526⟩⟩ := hr517
           refine t_st rfl (st_index_old j513 rfl rfl hj514 hlt520 hA519 sl33) ?_
           refine t_yes 67 rfl rfl rfl ?_
           refine t_st rfl (st_field_old rfl hA519 fld40_1) ?_
           refine t_yes 67 rfl rfl rfl ?_
           refine t_st rfl (st_load_old rfl one37 (hcs518 1 _ rfl)) ?_
           refine t_yes 67 rfl rfl rfl ?_
           refine t_mv rfl rfl ?_
           refine t_yes 67 rfl rfl rfl ?_
           obtain ⟨x527, hcl528, hm⟩ := bindS hm
           refine t_do rfl (u_callW0 _ call8 rfl (fun w ho => cSlicesContains_2 _ [] x511.Clashes x18 A524 c525 (h526.old ho) x527 hcl528) (fun _ _ _ h => h.2.symm)) ?_
           rintro _ _ ⟨⟨_, rfl, _⟩, rfl⟩
           rcases Bool.eq_false_or_eq_true x527 with hc529 | hc529
           ·
            rw [if_pos hc529] at hm
            refine t_resp 74 rfl (v' := .bool true) (by rw [hc529] <;> rfl) ?_
            refine t_yes 67 rfl rfl rfl ?_
            refine t_mv rfl rfl ?_
            refine t_yes 75 rfl rfl rfl ?_
            refine t_mv rfl rfl ?_
            refine t_yes 75 rfl rfl rfl ?_
            refine t_mv rfl rfl ?_
            refine t_yes 75 rfl rfl rfl ?_
            obtain ⟨x530, h531, hm⟩ := bindS hm
            obtain ⟨j532, hj533, hx534⟩ := idx_some h531
            obtain ⟨cs535, hr536, hcs537, hA538, hlt539⟩ := FZ.get (sz := 2) rfl (by decide) (h457.le hle461) hx534
            obtain ⟨_, _, rfl, ⟨A540, c541, rfl, h542⟩, ⟨A543, c544, rfl, h545⟩⟩ := hr536
            refine t_st rfl (st_index_old j532 rfl rfl hj533 hlt539 hA538 sl33) ?_
            refine t_yes 75 rfl rfl rfl ?_
            refine t_st rfl (st_field_old rfl hA538 fld40_1) ?_
            refine t_yes 75 rfl rfl rfl ?_
            refine t_st rfl (st_load_old rfl one37 (hcs537 1 _ rfl)) ?_
            refine t_yes 75 rfl rfl rfl ?_
            refine t_mv rfl rfl ?_
            refine t_yes 75 rfl rfl rfl ?_
            obtain ⟨x546, hcl547, hm⟩ := bindS hm
            refine t_do rfl (u_callW0 _ call8 rfl (fun w ho => cSlicesContains_2 _ [] x530.Clashes x17 A543 c544 (h545.old ho) x546 hcl547) (fun _ _ _ h => h.2.symm)) ?_
            rintro _ _ ⟨⟨_, rfl, _⟩, rfl⟩
            refine t_yes 67 rfl rfl rfl ?_
            refine t_st rfl (st_pick_t rfl rfl) ?_
            refine t_st rfl (st_pick_f rfl rfl) ?_
            refine t_as rfl rfl ?_
            refine t_nil ?_
            obtain rfl := some1 hm
            exact x_join (e' := [(6, .bool (x546))]) ⟨rfl, trivial⟩ (.refl _) ⟨rfl, rfl, (Base.Le.refl _)⟩
           ·
            rw [if_neg (fun hh => Bool.noConfusion (hh.symm.trans hc529))] at hm
            refine t_resp 74 rfl (v' := .bool false) (by rw [hc529] <;> rfl) ?_
            refine t_yes 67 rfl rfl rfl ?_
            refine t_mv rfl rfl ?_
            refine t_no 75 rfl rfl rfl rfl rfl ?_
            refine t_no 75 rfl rfl rfl rfl rfl ?_
            refine t_no 75 rfl rfl rfl rfl rfl ?_
            refine t_no 75 rfl rfl rfl rfl rfl ?_
            refine t_no 75 rfl rfl rfl rfl rfl ?_
            refine t_no 75 rfl rfl rfl rfl rfl ?_
            refine t_no 75 rfl rfl rfl rfl rfl ?_
            refine t_yes 67 rfl rfl rfl ?_
            refine t_st rfl (st_pick_f rfl rfl) ?_
            refine t_st rfl (st_pick_f rfl rfl) ?_
            refine t_as rfl rfl ?_
            refine t_nil ?_
            obtain rfl := some1 hm
            exact x_join (e' := [(6, .bool (false))]) ⟨rfl, trivial⟩ (.refl _) ⟨rfl, rfl, (Base.Le.refl _)⟩
         ·
          rintro b506 _ _ ⟨rfl, rfl, hle507⟩
          have hm := hk509
          refine c_ret ?_
          refine x_then_ret ?_
          obtain rfl := some1 hm
          exact retM (rs := [.tmp 6]) [.bool (x508)] (hle439.trans (hle449.trans (hle455.trans (hle461.trans hle507)))) (by decide) rfl ⟨rfl, trivial⟩ rfl (.refl _) ⟨rfl, rfl⟩
        ·
         rw [if_neg (fun hh => Bool.noConfusion (hh.symm.trans hc467))] at hm
         refine c_skip ?_
         refine x_then_normal ?_
         refine c_seq ?_
         refine c_sr ?_
         refine t_mv rfl rfl ?_
         refine t_mv rfl rfl ?_
         obtain ⟨x548, h549, hm⟩ := bindS hm
         obtain ⟨j550, hj551, hx552⟩ := idx_some h549
         obtain ⟨cs553, hr554, hcs555, hA556, hlt557⟩ := FZ.get (sz := 2) rfl (by decide) (h457.le hle461) hx552
         obtain ⟨_, _, rfl, ⟨A558, c559, rfl, h560⟩, ⟨A561, c562, rfl, h563⟩⟩ := hr554
         refine t_st rfl (st_index_old j550 rfl rfl hj551 hlt557 hA556 sl33) ?_
         refine t_st rfl (st_field_old rfl hA556 fld40_1) ?_
         refine t_st rfl (st_load_old rfl one37 (hcs555 1 _ rfl)) ?_
         refine t_mv rfl rfl ?_
         obtain ⟨x564, hcl565, hm⟩ := bindS hm
         refine t_do rfl (u_callW0 _ call8 rfl (fun w ho => cSlicesContains_2 _ [] x548.Clashes x18 A561 c562 (h563.old ho) x564 hcl565) (fun _ _ _ h => h.2.symm)) ?_
         rintro _ _ ⟨⟨_, rfl, _⟩, rfl⟩
         refine t_ne ?_
         refine c_cond _ rfl (fun hc566 => ?_) (fun hc566 => ?_)
         ·
          rw [if_pos hc566] at hm
          refine c_sr ?_
          refine t_as rfl rfl ?_
          refine t_ne ?_
          refine c_ret ?_
          refine x_then_ret ?_
          obtain rfl := some1 hm
          exact retM (rs := [.tmp 6]) [.bool (false)] (hle439.trans (hle449.trans (hle455.trans hle461))) (by decide) rfl ⟨rfl, trivial⟩ rfl (.refl _) ⟨rfl, rfl⟩
         ·
          rw [if_neg (fun hh => Bool.noConfusion (hh.symm.trans hc566))] at hm
          refine c_skip ?_
          refine x_then_normal ?_
          refine c_seq ?_
          refine c_sr ?_
          refine t_mv rfl rfl ?_
          refine t_mv rfl rfl ?_
          obtain ⟨x567, h568, hm⟩ := bindS hm
          obtain ⟨j569, hj570, hx571⟩ := idx_some h568
          obtain ⟨cs572, hr573, hcs574, hA575, hlt576⟩ := FZ.get (sz := 2) rfl (by decide) (h457.le hle461) hx571
          obtain ⟨_, _, rfl, ⟨A577, c578, rfl, h579⟩, ⟨A580, c581, rfl, h582⟩⟩ := hr573
          refine t_st rfl (st_index_old j569 rfl rfl hj570 hlt576 hA575 sl33) ?_
          refine t_st rfl (st_field_old rfl hA575 fld40_0) ?_
          refine t_st rfl (st_load_old rfl one38 (hcs574 0 _ rfl)) ?_
          refine t_st rfl (st_len rfl sl38) ?_
          refine t_mv rfl rfl ?_
          refine t_ne ?_
          refine c_block ?_
          have hb584 : x567.Needs.length ≤ 9223372036854775807 := (FZ.bd h579)
          obtain ⟨t708, hl709, hk710⟩ := bindS hm
          refine c_forM (fun k707 => fun _ => fun b705 e' hp' => [(2, .int .i64 (x18)), (11, .slice A450 (l446).length c451), (96, .slice A577 (x567.Needs).length c578), (97, .int .i64 ((x567.Needs.length : Int))), (98, .int .i64 ((k707 : Int)))] = e' ∧ R = hp' ∧ b460.Le b705) hl709 (e' := [(2, .int .i64 (x18)), (11, .slice A450 (l446).length c451), (96, .slice A577 (x567.Needs).length c578), (97, .int .i64 ((x567.Needs.length : Int))), (98, .int .i64 0)]) ⟨rfl, rfl, rfl, rfl, rfl, trivial⟩ (.refl _) ⟨rfl, rfl, (Base.Le.refl _)⟩ ?_ ?_
          ·
           rintro k707 _ b705 _ _ oL583 hknL583 ⟨rfl, rfl, hle706⟩ hstepL583 houtL583
           unfold mFishkeep1LineSafe_L583 at hstepL583
           have hm := hstepL583
           refine c_sr ?_
           refine t_st rfl (st_lss_t rfl rfl (by omega)) ?_
           refine t_ne ?_
           refine c_seq ?_
           refine c_cond_t rfl ?_
           refine c_skip ?_
           refine x_then_normal ?_
           refine c_seq ?_
           refine c_block ?_
           refine c_sr ?_
           obtain ⟨x711, h712, hm⟩ := bindS hm
           obtain ⟨j713, hj714, hx715⟩ := idx_some h712
           obtain ⟨cs716, hr717, hcs718, hA719, hlt720⟩ := FZ.get (sz := 4) rfl (by decide) (h579.le hle706) hx715
           obtain ⟨_, _, rfl, rfl, ⟨_, _, rfl, rfl, ⟨_, _, rfl, rfl, rfl⟩⟩⟩ := hr717
           refine t_st rfl (st_index_old j713 rfl rfl hj714 hlt720 hA719 sl38) ?_
           refine t_st rfl (st_loadN_old (vs := [.int .i64 (x711.Kind), .int .i64 (x711.Place), .int .i64 (x711.Position), .int .i64 (x711.At)]) 4 rfl agg42 hA719 rfl (fun j u hu => hcs718 j u hu)) ?_
           refine t_do rfl (u_alloc [.int .i64 0, .int .i64 0, .int .i64 0, .int .i64 0] zero42 rfl) ?_
           rintro _ _ ⟨g721, rfl, rfl⟩
           refine t_do rfl (u_storeN (vs := [_, _, _, _]) 0 4 rfl rfl rfl siz42 rfl (mem_c rfl (mem_c rfl (mem_c rfl (mem_c rfl mem_n)))) rfl (by simp)) ?_
           rintro _ _ rfl
           refine t_ne ?_
           refine c_sr ?_
           refine t_mv rfl rfl ?_
           refine t_mv rfl rfl ?_
           obtain ⟨x722, h723, hm⟩ := bindS hm
           obtain ⟨j724, hj725, hx726⟩ := idx_some h723
           obtain ⟨cs727, hr728, hcs729, hA730, hlt731⟩ := FZ.get (sz := 2) rfl (by decide) (h457.le (hle461.trans hle706)) hx726
           obtain ⟨_, _, rfl, ⟨A732, c733, rfl, h734⟩, ⟨A735, c736, rfl, h737⟩⟩ := hr728
           refine t_st rfl (st_index_old j724 rfl rfl hj725 hlt731 hA730 sl33) ?_
           refine t_st rfl (st_field_old rfl hA730 fld40_0) ?_
           refine t_st rfl (st_load_old rfl one38 (hcs729 0 _ rfl)) ?_
           refine t_st rfl (st_len rfl sl38) ?_
           refine t_mv rfl rfl ?_
           refine t_ne ?_
           refine c_block ?_
           have hb739 : x722.Needs.length ≤ 9223372036854775807 := (FZ.bd h734)
           obtain ⟨t785, hl786, hk787⟩ := bindS hm
           refine c_forM (fun k784 => fun _ => fun b782 e' hp' => [(2, .int .i64 (x18)), (11, .slice A450 (l446).length c451), (13, .pointer (some ⟨g721, 0, none⟩)), (96, .slice A577 (x567.Needs).length c578), (97, .int .i64 ((x567.Needs.length : Int))), (98, .int .i64 ((k707 : Int))), (106, .slice A732 (x722.Needs).length c733), (107, .int .i64 ((x722.Needs.length : Int))), (108, .int .i64 ((k784 : Int)))] = e' ∧ (g721, Cl 42 [.int .i64 (x711.Kind), .int .i64 (x711.Place), .int .i64 (x711.Position), .int .i64 (x711.At)]) :: R = hp' ∧ b705.Le b782) hl786 (e' := [(2, .int .i64 (x18)), (11, .slice A450 (l446).length c451), (13, .pointer (some ⟨g721, 0, none⟩)), (96, .slice A577 (x567.Needs).length c578), (97, .int .i64 ((x567.Needs.length : Int))), (98, .int .i64 ((k707 : Int))), (106, .slice A732 (x722.Needs).length c733), (107, .int .i64 ((x722.Needs.length : Int))), (108, .int .i64 0)]) ⟨rfl, rfl, rfl, rfl, rfl, rfl, rfl, rfl, rfl, trivial⟩ (.refl _) ⟨rfl, rfl, (Base.Le.refl _)⟩ ?_ ?_
           ·
            rintro k784 _ b782 _ _ oL738 hknL738 ⟨rfl, rfl, hle783⟩ hstepL738 houtL738
            unfold mFishkeep1LineSafe_L738 at hstepL738
            have hm := hstepL738
            refine c_sr ?_
            refine t_st rfl (st_lss_t rfl rfl (by omega)) ?_
            refine t_ne ?_
            refine c_seq ?_
            refine c_cond_t rfl ?_
            refine c_skip ?_
            refine x_then_normal ?_
            refine c_seq ?_
            refine c_block ?_
            refine c_sr ?_
            obtain ⟨x788, h789, hm⟩ := bindS hm
            obtain ⟨j790, hj791, hx792⟩ := idx_some h789
            obtain ⟨cs793, hr794, hcs795, hA796, hlt797⟩ := FZ.get (sz := 4) rfl (by decide) (h734.le hle783) hx792
            obtain ⟨_, _, rfl, rfl, ⟨_, _, rfl, rfl, ⟨_, _, rfl, rfl, rfl⟩⟩⟩ := hr794
            refine t_st rfl (st_index_old j790 rfl rfl hj791 hlt797 hA796 sl38) ?_
            refine t_st rfl (st_loadN_old (vs := [.int .i64 (x788.Kind), .int .i64 (x788.Place), .int .i64 (x788.Position), .int .i64 (x788.At)]) 4 rfl agg42 hA796 rfl (fun j u hu => hcs795 j u hu)) ?_
            refine t_do rfl (u_alloc [.int .i64 0, .int .i64 0, .int .i64 0, .int .i64 0] zero42 rfl) ?_
            rintro _ _ ⟨g798, rfl, rfl⟩
            refine t_do rfl (u_storeN (vs := [_, _, _, _]) 0 4 rfl rfl rfl siz42 rfl (mem_c rfl (mem_c rfl (mem_c rfl (mem_c rfl mem_n)))) rfl (by simp)) ?_
            rintro _ _ rfl
            refine t_ne ?_
            obtain ⟨x803, hj804, hk804⟩ := bindS hm
            refine c_join (fun b801 e' hp' => [(2, .int .i64 (x18)), (11, .slice A450 (l446).length c451), (13, .pointer (some ⟨g721, 0, none⟩)), (15, .pointer (some ⟨g798, 0, none⟩)), (16, .bool (x803)), (96, .slice A577 (x567.Needs).length c578), (97, .int .i64 ((x567.Needs.length : Int))), (98, .int .i64 ((k707 : Int))), (106, .slice A732 (x722.Needs).length c733), (107, .int .i64 ((x722.Needs.length : Int))), (108, .int .i64 ((k784 : Int)))] = e' ∧ (g721, Cl 42 [.int .i64 (x711.Kind), .int .i64 (x711.Place), .int .i64 (x711.Position), .int .i64 (x711.At)]) :: (g798, Cl 42 [.int .i64 (x788.Kind), .int .i64 (x788.Place), .int .i64 (x788.Position), .int .i64 (x788.At)]) :: R = hp' ∧ b782.Le b801) ?_ ?_
            ·
             have hm := hj804
             refine c_region ?_
             refine t_st rfl (st_field rfl fld42_0) ?_
             refine t_st rfl (st_load 1 rfl one3 rfl rfl) ?_
             refine t_bool rfl (st_leq rfl rfl) (fun hc805 => ?_) (fun hc805 => ?_)
             ·
              rw [if_pos hc805] at hm
              refine t_mv rfl rfl ?_
              refine t_yes 115 rfl rfl rfl ?_
              refine t_st rfl (st_field rfl fld42_0) ?_
              refine t_yes 115 rfl rfl rfl ?_
              refine t_st rfl (st_load 0 rfl one3 rfl rfl) ?_
              refine t_yes 115 rfl rfl rfl ?_
              refine t_bool rfl (st_leq rfl rfl) (fun hc806 => ?_) (fun hc806 => ?_)
              ·
               rw [if_pos hc806] at hm
               refine t_st rfl (st_pick_t rfl rfl) ?_
               refine t_mv rfl rfl ?_
               refine t_yes 120 rfl rfl rfl ?_
               refine t_st rfl (st_field rfl fld42_1) ?_
               refine t_yes 120 rfl rfl rfl ?_
               refine t_st rfl (st_load 1 rfl one3 rfl rfl) ?_
               refine t_yes 120 rfl rfl rfl ?_
               refine t_st rfl (st_field rfl fld42_1) ?_
               refine t_yes 120 rfl rfl rfl ?_
               refine t_st rfl (st_load 0 rfl one3 rfl rfl) ?_
               refine t_yes 120 rfl rfl rfl ?_
               refine t_st rfl (st_eql rfl rfl) ?_
               refine t_st rfl (st_pick_t rfl rfl) ?_
               refine t_as rfl rfl ?_
               refine t_nil ?_
               obtain rfl := some1 hm
               refine x_pullb 1 rfl ?_
               exact x_join (e' := [(2, .int .i64 (x18)), (11, .slice A450 (l446).length c451), (13, .pointer (some ⟨g721, 0, none⟩)), (15, .pointer (some ⟨g798, 0, none⟩)), (16, .bool (decide (x711.Place = x788.Place))), (96, .slice A577 (x567.Needs).length c578), (97, .int .i64 ((x567.Needs.length : Int))), (98, .int .i64 ((k707 : Int))), (106, .slice A732 (x722.Needs).length c733), (107, .int .i64 ((x722.Needs.length : Int))), (108, .int .i64 ((k784 : Int)))]) ⟨rfl, rfl, rfl, rfl, rfl, rfl, rfl, rfl, rfl, rfl, rfl, trivial⟩ (.refl _) ⟨rfl, rfl, (Base.Le.refl _)⟩
              ·
               rw [if_neg hc806] at hm
               refine t_st rfl (st_pick_t rfl rfl) ?_
               refine t_mv rfl rfl ?_
               refine t_no 120 rfl rfl rfl rfl rfl ?_
               refine t_no 120 rfl rfl rfl rfl rfl ?_
               refine t_no 120 rfl rfl rfl rfl rfl ?_
               refine t_no 120 rfl rfl rfl rfl rfl ?_
               refine t_no 120 rfl rfl rfl rfl rfl ?_
               refine t_st rfl (st_pick_f rfl rfl) ?_
               refine t_as rfl rfl ?_
               refine t_nil ?_
               obtain rfl := some1 hm
               refine x_pullb 1 rfl ?_
               exact x_join (e' := [(2, .int .i64 (x18)), (11, .slice A450 (l446).length c451), (13, .pointer (some ⟨g721, 0, none⟩)), (15, .pointer (some ⟨g798, 0, none⟩)), (16, .bool (false)), (96, .slice A577 (x567.Needs).length c578), (97, .int .i64 ((x567.Needs.length : Int))), (98, .int .i64 ((k707 : Int))), (106, .slice A732 (x722.Needs).length c733), (107, .int .i64 ((x722.Needs.length : Int))), (108, .int .i64 ((k784 : Int)))]) ⟨rfl, rfl, rfl, rfl, rfl, rfl, rfl, rfl, rfl, rfl, rfl, trivial⟩ (.refl _) ⟨rfl, rfl, (Base.Le.refl _)⟩
             ·
              rw [if_neg hc805] at hm
              refine t_mv rfl rfl ?_
              refine t_no 115 rfl rfl rfl rfl rfl ?_
              refine t_no 115 rfl rfl rfl rfl rfl ?_
              refine t_no 115 rfl rfl rfl rfl rfl ?_
              refine t_st rfl (st_pick_f rfl rfl) ?_
              refine t_mv rfl rfl ?_
              refine t_no 120 rfl rfl rfl rfl rfl ?_
              refine t_no 120 rfl rfl rfl rfl rfl ?_
              refine t_no 120 rfl rfl rfl rfl rfl ?_
              refine t_no 120 rfl rfl rfl rfl rfl ?_
              refine t_no 120 rfl rfl rfl rfl rfl ?_
              refine t_st rfl (st_pick_f rfl rfl) ?_
              refine t_as rfl rfl ?_
              refine t_nil ?_
              obtain rfl := some1 hm
              refine x_pullb 1 rfl ?_
              exact x_join (e' := [(2, .int .i64 (x18)), (11, .slice A450 (l446).length c451), (13, .pointer (some ⟨g721, 0, none⟩)), (15, .pointer (some ⟨g798, 0, none⟩)), (16, .bool (false)), (96, .slice A577 (x567.Needs).length c578), (97, .int .i64 ((x567.Needs.length : Int))), (98, .int .i64 ((k707 : Int))), (106, .slice A732 (x722.Needs).length c733), (107, .int .i64 ((x722.Needs.length : Int))), (108, .int .i64 ((k784 : Int)))]) ⟨rfl, rfl, rfl, rfl, rfl, rfl, rfl, rfl, rfl, rfl, rfl, trivial⟩ (.refl _) ⟨rfl, rfl, (Base.Le.refl _)⟩
            ·
             rintro b801 _ _ ⟨rfl, rfl, hle802⟩
             have hm := hk804
             obtain ⟨x812, hj813, hk813⟩ := bindS hm
             refine c_join (fun b810 e' hp' => [(2, .int .i64 (x18)), (11, .slice A450 (l446).length c451), (13, .pointer (some ⟨g721, 0, none⟩)), (15, .pointer (some ⟨g798, 0, none⟩)), (16, .bool (x803)), (17, .bool (x812)), (96, .slice A577 (x567.Needs).length c578), (97, .int .i64 ((x567.Needs.length : Int))), (98, .int .i64 ((k707 : Int))), (106, .slice A732 (x722.Needs).length c733), (107, .int .i64 ((x722.Needs.length : Int))), (108, .int .i64 ((k784 : Int)))] = e' ∧ (g721, Cl 42 [.int .i64 (x711.Kind), .int .i64 (x711.Place), .int .i64 (x711.Position), .int .i64 (x711.At)]) :: (g798, Cl 42 [.int .i64 (x788.Kind), .int .i64 (x788.Place), .int .i64 (x788.Position), .int .i64 (x788.At)]) :: R = hp' ∧ b801.Le b810) ?_ ?_
             ·
              have hm := hj813
              refine c_region ?_
              refine t_st rfl (st_field rfl fld42_0) ?_
              refine t_st rfl (st_load 0 rfl one3 rfl rfl) ?_
              refine t_bool rfl (st_leq rfl rfl) (fun hc814 => ?_) (fun hc814 => ?_)
              ·
               rw [if_pos hc814] at hm
               refine t_mv rfl rfl ?_
               refine t_yes 130 rfl rfl rfl ?_
               refine t_st rfl (st_field rfl fld42_0) ?_
               refine t_yes 130 rfl rfl rfl ?_
               refine t_st rfl (st_load 1 rfl one3 rfl rfl) ?_
               refine t_yes 130 rfl rfl rfl ?_
               refine t_bool rfl (st_leq rfl rfl) (fun hc815 => ?_) (fun hc815 => ?_)
               ·
                rw [if_pos hc815] at hm
                refine t_st rfl (st_pick_t rfl rfl) ?_
                refine t_mv rfl rfl ?_
                refine t_yes 135 rfl rfl rfl ?_
                refine t_st rfl (st_field rfl fld42_1) ?_
                refine t_yes 135 rfl rfl rfl ?_
                refine t_st rfl (st_load 0 rfl one3 rfl rfl) ?_
                refine t_yes 135 rfl rfl rfl ?_
                refine t_st rfl (st_field rfl fld42_1) ?_
                refine t_yes 135 rfl rfl rfl ?_
                refine t_st rfl (st_load 1 rfl one3 rfl rfl) ?_
                refine t_yes 135 rfl rfl rfl ?_
                refine t_bool rfl (st_eql rfl rfl) (fun hc816 => ?_) (fun hc816 => ?_)
                ·
                 rw [if_pos hc816] at hm
                 refine t_st rfl (st_pick_t rfl rfl) ?_
                 refine t_mv rfl rfl ?_
                 refine t_yes 142 rfl rfl rfl ?_
                 refine t_st rfl (st_field rfl fld42_2) ?_
                 refine t_yes 142 rfl rfl rfl ?_
                 refine t_st rfl (st_load 0 rfl one3 rfl rfl) ?_
                 refine t_yes 142 rfl rfl rfl ?_
                 refine t_st rfl (st_field rfl fld42_2) ?_
                 refine t_yes 142 rfl rfl rfl ?_
                 refine t_st rfl (st_load 1 rfl one3 rfl rfl) ?_
                 refine t_yes 142 rfl rfl rfl ?_
                 refine t_st rfl (st_neq rfl rfl) ?_
                 refine t_st rfl (st_pick_t rfl rfl) ?_
                 refine t_as rfl rfl ?_
                 refine t_nil ?_
                 obtain rfl := some1 hm
                 refine x_pullb 1 rfl ?_
                 refine x_pullb 1 rfl ?_
                 exact x_join (e' := [(2, .int .i64 (x18)), (11, .slice A450 (l446).length c451), (13, .pointer (some ⟨g721, 0, none⟩)), (15, .pointer (some ⟨g798, 0, none⟩)), (16, .bool (x803)), (17, .bool (decide (x711.Position ≠ x788.Position))), (96, .slice A577 (x567.Needs).length c578), (97, .int .i64 ((x567.Needs.length : Int))), (98, .int .i64 ((k707 : Int))), (106, .slice A732 (x722.Needs).length c733), (107, .int .i64 ((x722.Needs.length : Int))), (108, .int .i64 ((k784 : Int)))]) ⟨rfl, rfl, rfl, rfl, rfl, rfl, rfl, rfl, rfl, rfl, rfl, rfl, trivial⟩ (.refl _) ⟨rfl, rfl, (Base.Le.refl _)⟩
                ·
                 rw [if_neg hc816] at hm
                 refine t_st rfl (st_pick_t rfl rfl) ?_
                 refine t_mv rfl rfl ?_
                 refine t_no 142 rfl rfl rfl rfl rfl ?_
                 refine t_no 142 rfl rfl rfl rfl rfl ?_
                 refine t_no 142 rfl rfl rfl rfl rfl ?_
                 refine t_no 142 rfl rfl rfl rfl rfl ?_
                 refine t_no 142 rfl rfl rfl rfl rfl ?_
                 refine t_st rfl (st_pick_f rfl rfl) ?_
                 refine t_as rfl rfl ?_
                 refine t_nil ?_
                 obtain rfl := some1 hm
                 refine x_pullb 1 rfl ?_
                 refine x_pullb 1 rfl ?_
                 exact x_join (e' := [(2, .int .i64 (x18)), (11, .slice A450 (l446).length c451), (13, .pointer (some ⟨g721, 0, none⟩)), (15, .pointer (some ⟨g798, 0, none⟩)), (16, .bool (x803)), (17, .bool (false)), (96, .slice A577 (x567.Needs).length c578), (97, .int .i64 ((x567.Needs.length : Int))), (98, .int .i64 ((k707 : Int))), (106, .slice A732 (x722.Needs).length c733), (107, .int .i64 ((x722.Needs.length : Int))), (108, .int .i64 ((k784 : Int)))]) ⟨rfl, rfl, rfl, rfl, rfl, rfl, rfl, rfl, rfl, rfl, rfl, rfl, trivial⟩ (.refl _) ⟨rfl, rfl, (Base.Le.refl _)⟩
               ·
                rw [if_neg hc815] at hm
                refine t_st rfl (st_pick_t rfl rfl) ?_
                refine t_mv rfl rfl ?_
                refine t_no 135 rfl rfl rfl rfl rfl ?_
                refine t_no 135 rfl rfl rfl rfl rfl ?_
                refine t_no 135 rfl rfl rfl rfl rfl ?_
                refine t_no 135 rfl rfl rfl rfl rfl ?_
                refine t_no 135 rfl rfl rfl rfl rfl ?_
                refine t_st rfl (st_pick_f rfl rfl) ?_
                refine t_mv rfl rfl ?_
                refine t_no 142 rfl rfl rfl rfl rfl ?_
                refine t_no 142 rfl rfl rfl rfl rfl ?_
                refine t_no 142 rfl rfl rfl rfl rfl ?_
                refine t_no 142 rfl rfl rfl rfl rfl ?_
                refine t_no 142 rfl rfl rfl rfl rfl ?_
                refine t_st rfl (st_pick_f rfl rfl) ?_
                refine t_as rfl rfl ?_
                refine t_nil ?_
                obtain rfl := some1 hm
                refine x_pullb 1 rfl ?_
                refine x_pullb 1 rfl ?_
                exact x_join (e' := [(2, .int .i64 (x18)), (11, .slice A450 (l446).length c451), (13, .pointer (some ⟨g721, 0, none⟩)), (15, .pointer (some ⟨g798, 0, none⟩)), (16, .bool (x803)), (17, .bool (false)), (96, .slice A577 (x567.Needs).length c578), (97, .int .i64 ((x567.Needs.length : Int))), (98, .int .i64 ((k707 : Int))), (106, .slice A732 (x722.Needs).length c733), (107, .int .i64 ((x722.Needs.length : Int))), (108, .int .i64 ((k784 : Int)))]) ⟨rfl, rfl, rfl, rfl, rfl, rfl, rfl, rfl, rfl, rfl, rfl, rfl, trivial⟩ (.refl _) ⟨rfl, rfl, (Base.Le.refl _)⟩
              ·
               rw [if_neg hc814] at hm
               refine t_mv rfl rfl ?_
               refine t_no 130 rfl rfl rfl rfl rfl ?_
               refine t_no 130 rfl rfl rfl rfl rfl ?_
               refine t_no 130 rfl rfl rfl rfl rfl ?_
               refine t_st rfl (st_pick_f rfl rfl) ?_
               refine t_mv rfl rfl ?_
               refine t_no 135 rfl rfl rfl rfl rfl ?_
               refine t_no 135 rfl rfl rfl rfl rfl ?_
               refine t_no 135 rfl rfl rfl rfl rfl ?_
               refine t_no 135 rfl rfl rfl rfl rfl ?_
               refine t_no 135 rfl rfl rfl rfl rfl ?_
               refine t_st rfl (st_pick_f rfl rfl) ?_
               refine t_mv rfl rfl ?_
               refine t_no 142 rfl rfl rfl rfl rfl ?_
               refine t_no 142 rfl rfl rfl rfl rfl ?_
               refine t_no 142 rfl rfl rfl rfl rfl ?_
               refine t_no 142 rfl rfl rfl rfl rfl ?_
               refine t_no 142 rfl rfl rfl rfl rfl ?_
               refine t_st rfl (st_pick_f rfl rfl) ?_
               refine t_as rfl rfl ?_
               refine t_nil ?_
               obtain rfl := some1 hm
               refine x_pullb 1 rfl ?_
               refine x_pullb 1 rfl ?_
               exact x_join (e' := [(2, .int .i64 (x18)), (11, .slice A450 (l446).length c451), (13, .pointer (some ⟨g721, 0, none⟩)), (15, .pointer (some ⟨g798, 0, none⟩)), (16, .bool (x803)), (17, .bool (false)), (96, .slice A577 (x567.Needs).length c578), (97, .int .i64 ((x567.Needs.length : Int))), (98, .int .i64 ((k707 : Int))), (106, .slice A732 (x722.Needs).length c733), (107, .int .i64 ((x722.Needs.length : Int))), (108, .int .i64 ((k784 : Int)))]) ⟨rfl, rfl, rfl, rfl, rfl, rfl, rfl, rfl, rfl, rfl, rfl, rfl, trivial⟩ (.refl _) ⟨rfl, rfl, (Base.Le.refl _)⟩
             ·
              rintro b810 _ _ ⟨rfl, rfl, hle811⟩
              have hm := hk813
              obtain ⟨x823, hj824, hk824⟩ := bindS hm
              refine c_join (fun b821 e' hp' => [(2, .int .i64 (x18)), (11, .slice A450 (l446).length c451), (13, .pointer (some ⟨g721, 0, none⟩)), (96, .slice A577 (x567.Needs).length c578), (97, .int .i64 ((x567.Needs.length : Int))), (98, .int .i64 ((k707 : Int))), (106, .slice A732 (x722.Needs).length c733), (107, .int .i64 ((x722.Needs.length : Int))), (108, .int .i64 ((k784 : Int))), (169, .bool (x823))] = e' ∧ (g721, Cl 42 [.int .i64 (x711.Kind), .int .i64 (x711.Place), .int .i64 (x711.Position), .int .i64 (x711.At)]) :: R = hp' ∧ b810.Le b821) ?_ ?_
              ·
               have hm := hj824
               refine c_region ?_
               refine t_mv rfl rfl ?_
               rcases Bool.eq_false_or_eq_true x803 with hc825 | hc825
               ·
                rw [if_pos hc825] at hm
                refine t_resp 149 rfl (v' := .bool true) (by rw [hc825] <;> rfl) ?_
                refine t_mv rfl rfl ?_
                refine t_no 150 rfl rfl rfl rfl rfl ?_
                refine t_st rfl (st_pick_t rfl rfl) ?_
                refine t_mv rfl rfl ?_
                refine t_no 153 rfl rfl rfl rfl rfl ?_
                refine t_no 153 rfl rfl rfl rfl rfl ?_
                refine t_no 153 rfl rfl rfl rfl rfl ?_
                refine t_no 153 rfl rfl rfl rfl rfl ?_
                refine t_no 157 rfl rfl rfl rfl rfl ?_
                refine t_no 157 rfl rfl rfl rfl rfl ?_
                refine t_no 157 rfl rfl rfl rfl rfl ?_
                refine t_no 153 rfl rfl rfl rfl rfl ?_
                refine t_no 153 rfl rfl rfl rfl rfl ?_
                refine t_no 162 rfl rfl rfl rfl rfl ?_
                refine t_no 162 rfl rfl rfl rfl rfl ?_
                refine t_no 162 rfl rfl rfl rfl rfl ?_
                refine t_no 162 rfl rfl rfl rfl rfl ?_
                refine t_no 162 rfl rfl rfl rfl rfl ?_
                refine t_no 153 rfl rfl rfl rfl rfl ?_
                refine t_st rfl (st_pick_t rfl rfl) ?_
                refine t_nil ?_
                obtain rfl := some1 hm
                exact x_join (e' := [(2, .int .i64 (x18)), (11, .slice A450 (l446).length c451), (13, .pointer (some ⟨g721, 0, none⟩)), (96, .slice A577 (x567.Needs).length c578), (97, .int .i64 ((x567.Needs.length : Int))), (98, .int .i64 ((k707 : Int))), (106, .slice A732 (x722.Needs).length c733), (107, .int .i64 ((x722.Needs.length : Int))), (108, .int .i64 ((k784 : Int))), (169, .bool (true))]) ⟨rfl, rfl, rfl, rfl, rfl, rfl, rfl, rfl, rfl, rfl, trivial⟩ (.cons_cons _ (.cons _ (.refl _))) ⟨rfl, rfl, (Base.Le.refl _)⟩
               ·
                rw [if_neg (fun hh => Bool.noConfusion (hh.symm.trans hc825))] at hm
                refine t_resp 149 rfl (v' := .bool false) (by rw [hc825] <;> rfl) ?_
                refine t_mv rfl rfl ?_
                refine t_yes 150 rfl rfl rfl ?_
                refine t_mv rfl rfl ?_
                rcases Bool.eq_false_or_eq_true x812 with hc826 | hc826
                ·
                 rw [if_pos hc826] at hm
                 refine t_resp 151 rfl (v' := .bool true) (by rw [hc826] <;> rfl) ?_
                 refine t_st rfl (st_pick_f rfl rfl) ?_
                 refine t_mv rfl rfl ?_
                 refine t_no 153 rfl rfl rfl rfl rfl ?_
                 refine t_no 153 rfl rfl rfl rfl rfl ?_
                 refine t_no 153 rfl rfl rfl rfl rfl ?_
                 refine t_no 153 rfl rfl rfl rfl rfl ?_
                 refine t_no 157 rfl rfl rfl rfl rfl ?_
                 refine t_no 157 rfl rfl rfl rfl rfl ?_
                 refine t_no 157 rfl rfl rfl rfl rfl ?_
                 refine t_no 153 rfl rfl rfl rfl rfl ?_
                 refine t_no 153 rfl rfl rfl rfl rfl ?_
                 refine t_no 162 rfl rfl rfl rfl rfl ?_
                 refine t_no 162 rfl rfl rfl rfl rfl ?_
                 refine t_no 162 rfl rfl rfl rfl rfl ?_
                 refine t_no 162 rfl rfl rfl rfl rfl ?_
                 refine t_no 162 rfl rfl rfl rfl rfl ?_
                 refine t_no 153 rfl rfl rfl rfl rfl ?_
                 refine t_st rfl (st_pick_t rfl rfl) ?_
                 refine t_nil ?_
                 obtain rfl := some1 hm
                 exact x_join (e' := [(2, .int .i64 (x18)), (11, .slice A450 (l446).length c451), (13, .pointer (some ⟨g721, 0, none⟩)), (96, .slice A577 (x567.Needs).length c578), (97, .int .i64 ((x567.Needs.length : Int))), (98, .int .i64 ((k707 : Int))), (106, .slice A732 (x722.Needs).length c733), (107, .int .i64 ((x722.Needs.length : Int))), (108, .int .i64 ((k784 : Int))), (169, .bool (true))]) ⟨rfl, rfl, rfl, rfl, rfl, rfl, rfl, rfl, rfl, rfl, trivial⟩ (.cons_cons _ (.cons _ (.refl _))) ⟨rfl, rfl, (Base.Le.refl _)⟩
                ·
                 rw [if_neg (fun hh => Bool.noConfusion (hh.symm.trans hc826))] at hm
                 refine t_resp 151 rfl (v' := .bool false) (by rw [hc826] <;> rfl) ?_
                 refine t_st rfl (st_pick_f rfl rfl) ?_
                 refine t_mv rfl rfl ?_
                 refine t_yes 153 rfl rfl rfl ?_
                 refine t_st rfl (st_field rfl fld42_0) ?_
                 refine t_yes 153 rfl rfl rfl ?_
                 refine t_st rfl (st_load 0 rfl one3 rfl rfl) ?_
                 refine t_yes 153 rfl rfl rfl ?_
                 refine t_bool rfl (st_eql rfl rfl) (fun hc827 => ?_) (fun hc827 => ?_)
                 ·
                  rw [if_pos hc827] at hm
                  refine t_yes 153 rfl rfl rfl ?_
                  refine t_mv rfl rfl ?_
                  refine t_yes 157 rfl rfl rfl ?_
                  refine t_st rfl (st_field rfl fld42_0) ?_
                  refine t_yes 157 rfl rfl rfl ?_
                  refine t_st rfl (st_load 1 rfl one3 rfl rfl) ?_
                  refine t_yes 157 rfl rfl rfl ?_
                  refine t_bool rfl (st_eql rfl rfl) (fun hc828 => ?_) (fun hc828 => ?_)
                  ·
                   rw [if_pos hc828] at hm
                   refine t_yes 153 rfl rfl rfl ?_
                   refine t_st rfl (st_pick_t rfl rfl) ?_
                   refine t_yes 153 rfl rfl rfl ?_
                   refine t_mv rfl rfl ?_
                   refine t_yes 162 rfl rfl rfl ?_
                   refine t_st rfl (st_field rfl fld42_1) ?_
                   refine t_yes 162 rfl rfl rfl ?_
                   refine t_st rfl (st_load 0 rfl one3 rfl rfl) ?_
                   refine t_yes 162 rfl rfl rfl ?_
                   refine t_st rfl (st_field rfl fld42_1) ?_
                   refine t_yes 162 rfl rfl rfl ?_
                   refine t_st rfl (st_load 1 rfl one3 rfl rfl) ?_
                   refine t_yes 162 rfl rfl rfl ?_
                   refine t_st rfl (st_eql rfl rfl) ?_
                   refine t_yes 153 rfl rfl rfl ?_
                   refine t_st rfl (st_pick_t rfl rfl) ?_
                   refine t_st rfl (st_pick_f rfl rfl) ?_
                   refine t_nil ?_
                   obtain rfl := some1 hm
                   exact x_join (e' := [(2, .int .i64 (x18)), (11, .slice A450 (l446).length c451), (13, .pointer (some ⟨g721, 0, none⟩)), (96, .slice A577 (x567.Needs).length c578), (97, .int .i64 ((x567.Needs.length : Int))), (98, .int .i64 ((k707 : Int))), (106, .slice A732 (x722.Needs).length c733), (107, .int .i64 ((x722.Needs.length : Int))), (108, .int .i64 ((k784 : Int))), (169, .bool (decide (x711.Place = x788.Place)))]) ⟨rfl, rfl, rfl, rfl, rfl, rfl, rfl, rfl, rfl, rfl, trivial⟩ (.cons_cons _ (.cons _ (.refl _))) ⟨rfl, rfl, (Base.Le.refl _)⟩
                  ·
                   rw [if_neg hc828] at hm
                   refine t_yes 153 rfl rfl rfl ?_
                   refine t_st rfl (st_pick_t rfl rfl) ?_
                   refine t_yes 153 rfl rfl rfl ?_
                   refine t_mv rfl rfl ?_
                   refine t_no 162 rfl rfl rfl rfl rfl ?_
                   refine t_no 162 rfl rfl rfl rfl rfl ?_
                   refine t_no 162 rfl rfl rfl rfl rfl ?_
                   refine t_no 162 rfl rfl rfl rfl rfl ?_
                   refine t_no 162 rfl rfl rfl rfl rfl ?_
                   refine t_yes 153 rfl rfl rfl ?_
                   refine t_st rfl (st_pick_f rfl rfl) ?_
                   refine t_st rfl (st_pick_f rfl rfl) ?_
                   refine t_nil ?_
                   obtain rfl := some1 hm
                   exact x_join (e' := [(2, .int .i64 (x18)), (11, .slice A450 (l446).length c451), (13, .pointer (some ⟨g721, 0, none⟩)), (96, .slice A577 (x567.Needs).length c578), (97, .int .i64 ((x567.Needs.length : Int))), (98, .int .i64 ((k707 : Int))), (106, .slice A732 (x722.Needs).length c733), (107, .int .i64 ((x722.Needs.length : Int))), (108, .int .i64 ((k784 : Int))), (169, .bool (false))]) ⟨rfl, rfl, rfl, rfl, rfl, rfl, rfl, rfl, rfl, rfl, trivial⟩ (.cons_cons _ (.cons _ (.refl _))) ⟨rfl, rfl, (Base.Le.refl _)⟩
                 ·
                  rw [if_neg hc827] at hm
                  refine t_yes 153 rfl rfl rfl ?_
                  refine t_mv rfl rfl ?_
                  refine t_no 157 rfl rfl rfl rfl rfl ?_
                  refine t_no 157 rfl rfl rfl rfl rfl ?_
                  refine t_no 157 rfl rfl rfl rfl rfl ?_
                  refine t_yes 153 rfl rfl rfl ?_
                  refine t_st rfl (st_pick_f rfl rfl) ?_
                  refine t_yes 153 rfl rfl rfl ?_
                  refine t_mv rfl rfl ?_
                  refine t_no 162 rfl rfl rfl rfl rfl ?_
                  refine t_no 162 rfl rfl rfl rfl rfl ?_
                  refine t_no 162 rfl rfl rfl rfl rfl ?_
                  refine t_no 162 rfl rfl rfl rfl rfl ?_
                  refine t_no 162 rfl rfl rfl rfl rfl ?_
                  refine t_yes 153 rfl rfl rfl ?_
                  refine t_st rfl (st_pick_f rfl rfl) ?_
                  refine t_st rfl (st_pick_f rfl rfl) ?_
                  refine t_nil ?_
                  obtain rfl := some1 hm
                  exact x_join (e' := [(2, .int .i64 (x18)), (11, .slice A450 (l446).length c451), (13, .pointer (some ⟨g721, 0, none⟩)), (96, .slice A577 (x567.Needs).length c578), (97, .int .i64 ((x567.Needs.length : Int))), (98, .int .i64 ((k707 : Int))), (106, .slice A732 (x722.Needs).length c733), (107, .int .i64 ((x722.Needs.length : Int))), (108, .int .i64 ((k784 : Int))), (169, .bool (false))]) ⟨rfl, rfl, rfl, rfl, rfl, rfl, rfl, rfl, rfl, rfl, trivial⟩ (.cons_cons _ (.cons _ (.refl _))) ⟨rfl, rfl, (Base.Le.refl _)⟩
              ·
               rintro b821 _ _ ⟨rfl, rfl, hle822⟩
               have hm := hk824
               refine c_cond _ rfl (fun hc829 => ?_) (fun hc829 => ?_)
               ·
                rw [if_pos hc829] at hm
                refine c_sr ?_
                refine t_as rfl rfl ?_
                refine t_ne ?_
                refine c_ret ?_
                refine x_block_ret ?_
                refine x_then_ret ?_
                refine x_then_ret ?_
                refine x_block_ret ?_
                refine x_block_ret ?_
                refine x_then_ret ?_
                refine x_then_ret ?_
                refine x_block_ret ?_
                refine x_then_ret ?_
                have hq830 := houtL738 _ (Option.some.inj hm).symm
                rw [hq830] at hk787
                have hm := elimR hk787
                have hq831 := houtL583 _ (Option.some.inj hm).symm
                rw [hq831] at hk710
                have hm := elimR hk710
                obtain rfl := some1 hm
                exact retM (rs := [.tmp 6]) [.bool (false)] (hle439.trans (hle449.trans (hle455.trans (hle461.trans (hle706.trans (hle783.trans (hle802.trans (hle811.trans hle822)))))))) (by decide) rfl ⟨rfl, trivial⟩ rfl (.cons _ (.refl _)) ⟨rfl, rfl⟩
               ·
                rw [if_neg (fun hh => Bool.noConfusion (hh.symm.trans hc829))] at hm
                refine c_skip ?_
                refine x_block_normal ?_
                refine x_then_normal ?_
                refine c_region ?_
                refine t_st rfl (st_add rfl rfl (by omega)) ?_
                refine t_mv rfl rfl ?_
                refine t_nil ?_
                exact x_againM () (Option.some.inj hm).symm (e' := [(2, .int .i64 (x18)), (11, .slice A450 (l446).length c451), (13, .pointer (some ⟨g721, 0, none⟩)), (96, .slice A577 (x567.Needs).length c578), (97, .int .i64 ((x567.Needs.length : Int))), (98, .int .i64 ((k707 : Int))), (106, .slice A732 (x722.Needs).length c733), (107, .int .i64 ((x722.Needs.length : Int))), (108, .int .i64 ((k784 : Int) + 1))]) ⟨rfl, rfl, rfl, rfl, rfl, rfl, rfl, rfl, rfl, trivial⟩ (.refl _) ⟨rfl, rfl, ((hle783.trans (hle802.trans (hle811.trans hle822))))⟩
           ·
            rintro _ b782 _ _ ⟨rfl, rfl, hle783⟩ hq832
            rw [hq832] at hk787
            have hm := elimL hk787
            refine c_sr ?_
            refine t_st rfl (st_lss_f rfl rfl (by omega)) ?_
            refine t_ne ?_
            refine c_seq ?_
            refine c_cond_f rfl ?_
            refine c_exit ?_
            refine x_then_exit ?_
            refine x_then_exit ?_
            refine x_block_out ?_
            refine x_block_normal ?_
            refine x_then_normal ?_
            refine c_region ?_
            refine t_st rfl (st_add rfl rfl (by omega)) ?_
            refine t_mv rfl rfl ?_
            refine t_nil ?_
            exact x_againM () (Option.some.inj hm).symm (e' := [(2, .int .i64 (x18)), (11, .slice A450 (l446).length c451), (96, .slice A577 (x567.Needs).length c578), (97, .int .i64 ((x567.Needs.length : Int))), (98, .int .i64 ((k707 : Int) + 1))]) ⟨rfl, rfl, rfl, rfl, rfl, trivial⟩ (.cons _ (.refl _)) ⟨rfl, rfl, ((hle706.trans hle783))⟩
          ·
           rintro _ b705 _ _ ⟨rfl, rfl, hle706⟩ hq833
           rw [hq833] at hk710
           have hm := elimL hk710
           refine c_sr ?_
           refine t_st rfl (st_lss_f rfl rfl (by omega)) ?_
           refine t_ne ?_
           refine c_seq ?_
           refine c_cond_f rfl ?_
           refine c_exit ?_
           refine x_then_exit ?_
           refine x_then_exit ?_
           refine x_block_out ?_
           refine x_then_normal ?_
           refine c_sr ?_
           refine t_as rfl rfl ?_
           refine t_ne ?_
           refine c_ret ?_
           obtain rfl := some1 hm
           exact retM (rs := [.tmp 6]) [.bool (true)] (hle439.trans (hle449.trans (hle455.trans (hle461.trans hle706)))) (by decide) rfl ⟨rfl, trivial⟩ rfl (.refl _) ⟨rfl, rfl⟩

end Go.Proofs.YtcibjjhanafojaaGreatDoor
