/- Contracts: the code computes its model (part 1). -/
import Derived.Test.YthcgoaejnpelbaaGreatDoorVT
set_option linter.unusedVariables false
set_option linter.unusedSimpArgs false
namespace Go.Proofs.YthcgoaejnpelbaaGreatDoor.Inv
open Go.RowKit Go.Fp

set_option maxRecDepth 20000 in
theorem cFareNewCar (b : Base) (R : Hp) (x1 : Int) (x2 : Int) (x3 : Int) (hm : mFareNewCar x1 x2 x3 = some ()) :
    CallsG Tryz.prog 5 [.int .i64 (x1), .int .i64 (x2), .int .i64 (x3)] b (R) (fun v b' hp' => .tuple #[.pointer none, .int .i64 (2)] = v ∧ R = hp') := by
  refine fn_enterG 26 Tryz.func5 rfl Tryz.ntmps5 rfl ?_
  unfold mFareNewCar at hm
  refine c_sr ?_
  refine t_as rfl rfl ?_
  refine t_as rfl rfl ?_
  refine t_ne ?_
  refine c_seq ?_
  obtain ⟨x36, hj37, hk37⟩ := bindS hm
  refine c_join (fun b34 e' hp' => [(0, .int .i64 (x1)), (1, .int .i64 (x2)), (2, .int .i64 (x3)), (20, .bool (x36))] = e' ∧ R = hp' ∧ b.Le b34) ?_ ?_
  ·
   have hm := hj37
   refine c_region ?_
   refine t_mv rfl rfl ?_
   obtain ⟨x38, hcl39, hm⟩ := bindS hm
   refine t_do rfl (u_callW0 _ call16 rfl (fun w ho => cFareWithin _ [] x1 1 20 x38 hcl39) (fun _ _ _ h => h.2.symm)) ?_
   rintro _ _ ⟨⟨_, rfl, _⟩, rfl⟩
   rcases Bool.eq_false_or_eq_true x38 with hc40 | hc40
   ·
    rw [if_pos hc40] at hm
    refine t_resp 9 rfl (v' := .bool true) (by rw [hc40] <;> rfl) ?_
    refine t_st rfl (st_not_t rfl) ?_
    refine t_mv rfl rfl ?_
    refine t_yes 11 rfl rfl rfl ?_
    refine t_mv rfl rfl ?_
    refine t_yes 11 rfl rfl rfl ?_
    obtain ⟨x41, hcl42, hm⟩ := bindS hm
    refine t_do rfl (u_callW0 _ call16 rfl (fun w ho => cFareWithin _ [] x2 1 4 x41 hcl42) (fun _ _ _ h => h.2.symm)) ?_
    rintro _ _ ⟨⟨_, rfl, _⟩, rfl⟩
    rcases Bool.eq_false_or_eq_true x41 with hc43 | hc43
    ·
     rw [if_pos hc43] at hm
     refine t_resp 13 rfl (v' := .bool true) (by rw [hc43] <;> rfl) ?_
     refine t_yes 11 rfl rfl rfl ?_
     refine t_st rfl (st_not_t rfl) ?_
     refine t_st rfl (st_pick_f rfl rfl) ?_
     refine t_mv rfl rfl ?_
     refine t_yes 16 rfl rfl rfl ?_
     refine t_mv rfl rfl ?_
     refine t_yes 16 rfl rfl rfl ?_
     obtain ⟨x44, hcl45, hm⟩ := bindS hm
     refine t_do rfl (u_callW0 _ call16 rfl (fun w ho => cFareWithin _ [] x3 2 12 x44 hcl45) (fun _ _ _ h => h.2.symm)) ?_
     rintro _ _ ⟨⟨_, rfl, _⟩, rfl⟩
     refine t_yes 16 rfl rfl rfl ?_
     refine t_st rfl (st_not rfl) ?_
     refine t_st rfl (st_pick_f rfl rfl) ?_
     refine t_nil ?_
     obtain rfl := some1 hm
     exact x_join (e' := [(0, .int .i64 (x1)), (1, .int .i64 (x2)), (2, .int .i64 (x3)), (20, .bool (!x44))]) ⟨rfl, rfl, rfl, rfl, trivial⟩ (.refl _) ⟨rfl, rfl, (Base.Le.refl _)⟩
    ·
     rw [if_neg (fun hh => Bool.noConfusion (hh.symm.trans hc43))] at hm
     refine t_resp 13 rfl (v' := .bool false) (by rw [hc43] <;> rfl) ?_
     refine t_yes 11 rfl rfl rfl ?_
     refine t_st rfl (st_not_f rfl) ?_
     refine t_st rfl (st_pick_f rfl rfl) ?_
     refine t_mv rfl rfl ?_
     refine t_no 16 rfl rfl rfl rfl rfl ?_
     refine t_no 16 rfl rfl rfl rfl rfl ?_
     refine t_no 16 rfl rfl rfl rfl rfl ?_
     refine t_st rfl (st_pick_t rfl rfl) ?_
     refine t_nil ?_
     obtain rfl := some1 hm
     exact x_join (e' := [(0, .int .i64 (x1)), (1, .int .i64 (x2)), (2, .int .i64 (x3)), (20, .bool (true))]) ⟨rfl, rfl, rfl, rfl, trivial⟩ (.refl _) ⟨rfl, rfl, (Base.Le.refl _)⟩
   ·
    rw [if_neg (fun hh => Bool.noConfusion (hh.symm.trans hc40))] at hm
    refine t_resp 9 rfl (v' := .bool false) (by rw [hc40] <;> rfl) ?_
    refine t_st rfl (st_not_f rfl) ?_
    refine t_mv rfl rfl ?_
    refine t_no 11 rfl rfl rfl rfl rfl ?_
    refine t_no 11 rfl rfl rfl rfl rfl ?_
    refine t_no 11 rfl rfl rfl rfl rfl ?_
    refine t_st rfl (st_pick_t rfl rfl) ?_
    refine t_mv rfl rfl ?_
    refine t_no 16 rfl rfl rfl rfl rfl ?_
    refine t_no 16 rfl rfl rfl rfl rfl ?_
    refine t_no 16 rfl rfl rfl rfl rfl ?_
    refine t_st rfl (st_pick_t rfl rfl) ?_
    refine t_nil ?_
    obtain rfl := some1 hm
    exact x_join (e' := [(0, .int .i64 (x1)), (1, .int .i64 (x2)), (2, .int .i64 (x3)), (20, .bool (true))]) ⟨rfl, rfl, rfl, rfl, trivial⟩ (.refl _) ⟨rfl, rfl, (Base.Le.refl _)⟩
  ·
   rintro b34 _ _ ⟨rfl, rfl, hle35⟩
   have hm := hk37
   refine c_cond _ rfl (fun hc46 => ?_) (fun hc46 => ?_)
   ·
    rw [if_pos hc46] at hm
    refine c_sr ?_
    refine t_as rfl rfl ?_
    refine t_as rfl rfl ?_
    refine t_ne ?_
    refine c_ret ?_
    refine x_then_ret ?_
    clear hm
    exact retM (rs := [.tmp 6, .tmp 7]) [.pointer none, .int .i64 (2)] hle35 (by decide) rfl ⟨rfl, ⟨rfl, trivial⟩⟩ rfl (.refl _) ⟨rfl, rfl⟩
   ·
    rw [if_neg (fun hh => Bool.noConfusion (hh.symm.trans hc46))] at hm
    refine c_skip ?_
    refine x_then_normal ?_
    refine c_sr ?_
    refine t_mv rfl rfl ?_
    refine t_mv rfl rfl ?_
    refine t_mv rfl rfl ?_
    refine t_st rfl (st_build (v := .agg #[.int .i64 (x1), .int .i64 (x2), .int .i64 (x3), .slice none 0 0, .slice none 0 0]) [(0, .int .i64 (x1)), (1, .int .i64 (x2)), (2, .int .i64 (x3))] rfl (fun _ => by kernel_rfl)) ?_
    refine t_do rfl (u_box _ rfl rfl) ?_
    rintro _ _ ⟨g47, rfl, rfl⟩
    refine t_as rfl rfl ?_
    refine t_as rfl rfl ?_
    refine t_ne ?_
    refine c_ret ?_
    cases hm

set_option maxRecDepth 20000 in
theorem cFishkeep2FareOnce (b : Base) (R : Hp) (x1 : Int) (x2 : Int) (x3 : Int) (l7 : (List Int)) (A4 : Option Addr) (c5 : Nat) (h6 : FZ (RT.int .i64) b.w A4 c5 l7) (x414 : Bool) (hm : mFishkeep2FareOnce x1 x2 x3 l7 = some x414) :
    CallsG Tryz.prog 3 [.int .i64 (x1), .int .i64 (x2), .int .i64 (x3), .slice A4 (l7).length c5] b (R) (fun v b' hp' => .bool (x414) = v ∧ R = hp') := by
  refine fn_enterG 201 Tryz.func3 rfl Tryz.ntmps3 rfl ?_
  unfold mFishkeep2FareOnce at hm
  refine c_sr ?_
  refine t_as rfl rfl ?_
  refine t_ne ?_
  refine c_seq ?_
  refine c_sr ?_
  obtain ⟨_, hcl415, hm⟩ := bindS hm
  refine t_do rfl (u_callW0 _ call4 rfl (fun w ho => cFishkeep2AwakeFare _ [] hcl415) (fun _ _ _ h => h.2.symm)) ?_
  rintro _ _ ⟨⟨_, rfl, _⟩, rfl⟩
  refine t_st rfl (st_not_t rfl) ?_
  refine t_ne ?_
  refine c_cond_f rfl ?_
  refine c_skip ?_
  refine x_then_normal ?_
  refine c_sr ?_
  refine t_mv rfl rfl ?_
  refine t_mv rfl rfl ?_
  refine t_mv rfl rfl ?_
  obtain ⟨_, hcl416, hm⟩ := bindS hm
  refine t_do rfl (u_callW0 _ call5 rfl (fun w ho => cFareNewCar _ [] x1 x2 x3 hcl416) (fun _ _ _ h => h.2.symm)) ?_
  rintro _ _ ⟨⟨_, rfl, _⟩, rfl⟩
  refine t_mv rfl rfl ?_
  refine t_st rfl (st_extract rfl rfl) ?_
  refine t_st rfl (st_extract rfl rfl) ?_
  refine t_as rfl rfl ?_
  refine t_as rfl rfl ?_
  refine t_ne ?_
  refine c_seq ?_
  refine c_sr ?_
  obtain ⟨x417, hcl418, hm⟩ := bindS hm
  refine t_do rfl (u_callW0 _ call6 rfl (fun w ho => cFishkeep2Fares _ [] x417 hcl418) (fun _ _ _ h => h.2.symm)) ?_
  rintro _ _ ⟨⟨_, rfl, _⟩, rfl⟩
  refine t_st rfl (st_not rfl) ?_
  refine t_ne ?_
  refine c_cond _ rfl (fun hc419 => ?_) (fun hc419 => ?_)
  ·
   rw [if_neg (fun hh => Bool.noConfusion (hh.symm.trans (notT hc419)))] at hm
   refine c_sr ?_
   refine t_as rfl rfl ?_
   refine t_ne ?_
   refine c_ret ?_
   refine x_then_ret ?_
   obtain rfl := some1 hm
   exact retM (rs := [.tmp 8]) [.bool (false)] (Base.Le.refl _) (by decide) rfl ⟨rfl, trivial⟩ rfl (.refl _) ⟨rfl, rfl⟩
  ·
   rw [if_pos (notF hc419)] at hm
   refine c_skip ?_
   refine x_then_normal ?_
   refine c_seq ?_
   refine c_sr ?_
   refine t_mv rfl rfl ?_
   refine t_st rfl (st_neq rfl rfl) ?_
   refine t_ne ?_
   refine c_cond _ rfl (fun hc420 => ?_) (fun hc420 => ?_)
   ·
    rw [if_pos (of_decide_eq_true hc420)] at hm
    refine c_sr ?_
    refine t_mv rfl rfl ?_
    refine t_st rfl (st_eqpn rfl rfl rfl ptr24) ?_
    refine t_as rfl rfl ?_
    refine t_ne ?_
    refine c_ret ?_
    refine x_then_ret ?_
    obtain rfl := some1 hm
    exact retM (rs := [.tmp 8]) [.bool (true)] (Base.Le.refl _) (by decide) rfl ⟨rfl, trivial⟩ rfl (.refl _) ⟨rfl, rfl⟩
   ·
    rw [if_neg (of_decide_eq_false hc420)] at hm
    refine c_skip ?_
    refine x_then_normal ?_
    obtain ⟨t621, hj620, hk620⟩ := bindS hm
    refine c_join (fun b618 e' hp' => [(0, .int .i64 (x1)), (1, .int .i64 (x2)), (2, .int .i64 (x3)), (9, .pointer none)] = e' ∧ R = hp' ∧ b.Le b618 ∧ t621 = .inl ()) ?_ ?_
    ·
     have hm := hj620
     refine c_block ?_
     refine c_loopM (fun _ => fun b720 e' hp' => [(0, .int .i64 (x1)), (1, .int .i64 (x2)), (2, .int .i64 (x3)), (3, .slice A4 (l7).length c5), (9, .pointer none)] = e' ∧ R = hp' ∧ b.Le b720) hm (e' := [(0, .int .i64 (x1)), (1, .int .i64 (x2)), (2, .int .i64 (x3)), (3, .slice A4 (l7).length c5), (9, .pointer none)]) ⟨rfl, rfl, rfl, rfl, rfl, trivial⟩ (.refl _) ⟨rfl, rfl, (Base.Le.refl _)⟩ ?_
     rintro _ b720 _ _ oL622 ⟨rfl, rfl, hle721⟩ hstepL622 houtL622
     unfold mFishkeep2FareOnce_L622 at hstepL622
     have hm := hstepL622
     refine c_seq ?_
     refine c_sr ?_
     refine t_mv rfl rfl ?_
     refine t_st rfl (st_len rfl sl22) ?_
     refine t_st rfl (st_geq rfl rfl) ?_
     refine t_ne ?_
     refine c_cond _ rfl (fun hc722 => ?_) (fun hc722 => ?_)
     ·
      rw [if_pos (of_decide_eq_true hc722)] at hm
      refine c_skip ?_
      refine x_then_normal ?_
      refine c_block ?_
      refine c_seq ?_
      obtain ⟨x763, h764, hm⟩ := bindS hm
      obtain ⟨x773, h774, hm⟩ := bindS hm
      obtain ⟨x783, h784, hm⟩ := bindS hm
      obtain ⟨x793, h794, hm⟩ := bindS hm
      refine D_drawI mixed (.refl _) ?_
      refine E_s0 0 rfl (st_move rfl) ?_
      obtain ⟨j765, hj766, hx767⟩ := idx_some h764
      obtain ⟨cs768, hr769, hcs770, hA771, hlt772⟩ := FZ.get (sz := 1) rfl (by decide) (h6.le hle721) hx767
      obtain rfl := hr769
      refine E_s0 1 rfl (st_index_old j765 rfl rfl hj766 hlt772 hA771 sl22) ?_
      refine E_st 2 rfl (st_load_old rfl one3 (hcs770 0 _ rfl)) ?_
      refine E_s0 3 rfl (st_move rfl) ?_
      obtain ⟨j775, hj776, hx777⟩ := idx_some h774
      obtain ⟨cs778, hr779, hcs780, hA781, hlt782⟩ := FZ.get (sz := 1) rfl (by decide) (h6.le hle721) hx777
      obtain rfl := hr779
      refine E_s0 4 rfl (st_index_old j775 rfl rfl hj776 hlt782 hA781 sl22) ?_
      refine E_st 5 rfl (st_load_old rfl one3 (hcs780 0 _ rfl)) ?_
      refine E_s0 6 rfl (st_move rfl) ?_
      obtain ⟨j785, hj786, hx787⟩ := idx_some h784
      obtain ⟨cs788, hr789, hcs790, hA791, hlt792⟩ := FZ.get (sz := 1) rfl (by decide) (h6.le hle721) hx787
      obtain rfl := hr789
      refine E_s0 7 rfl (st_index_old j785 rfl rfl hj786 hlt792 hA791 sl22) ?_
      refine E_st 8 rfl (st_load_old rfl one3 (hcs790 0 _ rfl)) ?_
      refine E_s0 9 rfl (st_move rfl) ?_
      obtain ⟨j795, hj796, hx797⟩ := idx_some h794
      obtain ⟨cs798, hr799, hcs800, hA801, hlt802⟩ := FZ.get (sz := 1) rfl (by decide) (h6.le hle721) hx797
      obtain rfl := hr799
      refine E_s0 10 rfl (st_index_old j795 rfl rfl hj796 hlt802 hA801 sl22) ?_
      refine E_st 11 rfl (st_load_old rfl one3 (hcs800 0 _ rfl)) ?_
      refine E_s0 12 rfl (st_assign rfl) ?_
      refine E_s0 13 rfl (st_assign rfl) ?_
      refine E_s0 14 rfl (st_assign rfl) ?_
      refine E_s0 15 rfl (st_assign rfl) ?_
      refine E_out ?_
      refine D_done (by kernel_rfl) ?_
      refine x_then_normal ?_
      refine c_sr ?_
      refine t_mv rfl rfl ?_
      obtain ⟨l803, h804, hm⟩ := bindS hm
      obtain ⟨j805, j806, hj807, hj808, hj809, hj810, hx811⟩ := cutS_some h804
      have h812 := FZ.sub (sz := 1) rfl (h6.le hle721) hj809 hj810
      have h813 := (h6.le hle721).1.1
      rw [← hx811] at h812
      refine t_st rfl (hx811 ▸ st_part (l := l7) j805 j806 rfl (.inr ⟨_, _, _, rfl, rfl, hj807⟩) (.inl ⟨rfl, by omega⟩) hj809 hj810 h813 sl22) ?_
      refine t_as rfl rfl ?_
      refine t_ne ?_
      refine c_seq ?_
      refine c_sr ?_
      refine t_mv rfl rfl ?_
      refine t_st rfl (st_eql rfl rfl) ?_
      refine t_ne ?_
      refine c_cond _ rfl (fun hc818 => ?_) (fun hc818 => ?_)
      ·
       rw [if_pos (of_decide_eq_true hc818)] at hm
       refine c_sr ?_
       refine t_mv rfl rfl ?_
       refine t_mv rfl rfl ?_
       cases hm
      ·
       rw [if_neg (of_decide_eq_false hc818)] at hm
       refine c_skip ?_
       refine x_then_normal ?_
       refine c_sr ?_
       refine t_mv rfl rfl ?_
       refine t_mv rfl rfl ?_
       refine t_mv rfl rfl ?_
       cases hm
     ·
      rw [if_neg (of_decide_eq_false hc722)] at hm
      refine c_exit ?_
      refine x_then_exit ?_
      refine x_then_exit ?_
      refine x_block_out ?_
      have hm := congrArg some (houtL622 _ (Option.some.inj hm).symm)
      have hq := (Option.some.inj hm).symm
      exact x_join (e' := [(0, .int .i64 (x1)), (1, .int .i64 (x2)), (2, .int .i64 (x3)), (9, .pointer none)]) ⟨rfl, rfl, rfl, rfl, trivial⟩ (.refl _) ⟨rfl, rfl, hle721, hq⟩
    ·
     rintro b618 _ _ ⟨rfl, rfl, hle619, hq819⟩
     rw [hq819] at hk620
     have hm := elimL hk620
     refine c_sr ?_
     refine t_as rfl rfl ?_
     refine t_ne ?_
     refine c_sr ?_
     refine t_mv rfl rfl ?_
     cases hm

end Go.Proofs.YthcgoaejnpelbaaGreatDoor.Inv
