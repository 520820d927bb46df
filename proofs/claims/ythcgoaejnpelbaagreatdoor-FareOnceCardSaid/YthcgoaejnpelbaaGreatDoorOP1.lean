/- Contracts: the code computes its model (part 1). -/
import Derived.Test.YthcgoaejnpelbaaGreatDoorOT
import Derived.Test.YthcgoaejnpelbaaGreatDoorAW
set_option linter.unusedVariables false
set_option linter.unusedSimpArgs false
namespace Go.Proofs.YthcgoaejnpelbaaGreatDoor
open Go.RowKit Go.Fp

set_option maxRecDepth 20000 in
theorem cFishkeep2AwakeFare (b : Base) (R : Hp) (hm : mFishkeep2AwakeFare = some ()) :
    CallsG Tryz.prog 4 [] b (R) (fun v b' hp' => .bool (true) = v ∧ R = hp') := by
  unfold mFishkeep2AwakeFare at hm
  clear hm
  exact awake_of

set_option maxRecDepth 20000 in
theorem cFareWithin (b : Base) (R : Hp) (x1 : Int) (x2 : Int) (x3 : Int) (x10 : Bool) (hm : mFareWithin x1 x2 x3 = some x10) :
    CallsG Tryz.prog 16 [.int .i64 (x1), .int .i64 (x2), .int .i64 (x3)] b (R) (fun v b' hp' => .bool (x10) = v ∧ R = hp') := by
  refine fn_enterG 15 Tryz.func16 rfl Tryz.ntmps16 rfl ?_
  unfold mFareWithin at hm
  refine c_sr ?_
  refine t_as rfl rfl ?_
  refine t_ne ?_
  obtain ⟨x14, hj15, hk15⟩ := bindS hm
  refine c_join (fun b12 e' hp' => [(6, .bool (x14))] = e' ∧ R = hp' ∧ b.Le b12) ?_ ?_
  ·
   have hm := hj15
   refine c_region ?_
   refine t_mv rfl rfl ?_
   refine t_mv rfl rfl ?_
   refine t_bool rfl (st_geq rfl rfl) (fun hc16 => ?_) (fun hc16 => ?_)
   ·
    rw [if_pos hc16] at hm
    refine t_mv rfl rfl ?_
    refine t_yes 10 rfl rfl rfl ?_
    refine t_mv rfl rfl ?_
    refine t_yes 10 rfl rfl rfl ?_
    refine t_mv rfl rfl ?_
    refine t_yes 10 rfl rfl rfl ?_
    refine t_st rfl (st_leq rfl rfl) ?_
    refine t_st rfl (st_pick_t rfl rfl) ?_
    refine t_as rfl rfl ?_
    refine t_nil ?_
    obtain rfl := some1 hm
    exact x_join (e' := [(6, .bool (decide (x1 ≤ x3)))]) ⟨rfl, trivial⟩ (.refl _) ⟨rfl, rfl, (Base.Le.refl _)⟩
   ·
    rw [if_neg hc16] at hm
    refine t_mv rfl rfl ?_
    refine t_no 10 rfl rfl rfl rfl rfl ?_
    refine t_no 10 rfl rfl rfl rfl rfl ?_
    refine t_no 10 rfl rfl rfl rfl rfl ?_
    refine t_st rfl (st_pick_f rfl rfl) ?_
    refine t_as rfl rfl ?_
    refine t_nil ?_
    obtain rfl := some1 hm
    exact x_join (e' := [(6, .bool (false))]) ⟨rfl, trivial⟩ (.refl _) ⟨rfl, rfl, (Base.Le.refl _)⟩
  ·
   rintro b12 _ _ ⟨rfl, rfl, hle13⟩
   have hm := hk15
   refine c_ret ?_
   obtain rfl := some1 hm
   exact retM (rs := [.tmp 6]) [.bool (x14)] hle13 (by decide) rfl ⟨rfl, trivial⟩ rfl (.refl _) ⟨rfl, rfl⟩

set_option maxRecDepth 20000 in
theorem cFareNewCar (b : Base) (R : Hp) (x1 : Int) (x2 : Int) (x3 : Int) (x37 : Int) (x38 : Int) (x39 : Int) (l40 : (List FareBooking)) (l42 : (List Bool)) (hm : mFareNewCar x1 x2 x3 = some (x37, x38, x39, l40, l42)) :
    CallsG Tryz.prog 5 [.int .i64 (x1), .int .i64 (x2), .int .i64 (x3)] b (R) (fun v b' hp' => ∃ (g36 : Nat), ∃ (A28 : Option Addr), ∃ (c29 : Nat), ∃ (hs27 : Hp), ∃ (A33 : Option Addr), ∃ (c34 : Nat), ∃ (hs32 : Hp), .tuple #[.pointer (some ⟨g36, 0, none⟩), .int .i64 (0)] = v ∧ (g36, Cl 54 [.int .i64 (x37), .int .i64 (x38), .int .i64 (x39), .slice A28 (l40).length c29, .slice A33 (l42).length c34]) :: (hs27 ++ (hs32 ++ R)) = hp' ∧ OS 32 (OT.fr rFareBooking) b'.w (.slice A28 l40.length c29) l40 hs27 ∧ (A28 = none ↔ l40 = []) ∧ OS 4 (OT.fr RT.bool) b'.w (.slice A33 l42.length c34) l42 hs32 ∧ (A33 = none ↔ l42 = [])) := by
  refine fn_enterG 26 Tryz.func5 rfl Tryz.ntmps5 rfl ?_
  unfold mFareNewCar at hm
  refine c_sr ?_
  refine t_as rfl rfl ?_
  refine t_as rfl rfl ?_
  refine t_ne ?_
  refine c_seq ?_
  obtain ⟨x54, hj55, hk55⟩ := bindS hm
  refine c_join (fun b52 e' hp' => [(0, .int .i64 (x1)), (1, .int .i64 (x2)), (2, .int .i64 (x3)), (20, .bool (x54))] = e' ∧ R = hp' ∧ b.Le b52) ?_ ?_
  ·
   have hm := hj55
   refine c_region ?_
   refine t_mv rfl rfl ?_
   obtain ⟨x56, hcl57, hm⟩ := bindS hm
   refine t_do rfl (u_callW0 _ call16 rfl (fun w ho => cFareWithin _ [] x1 1 20 x56 hcl57) (fun _ _ _ h => h.2.symm)) ?_
   rintro _ _ ⟨⟨_, rfl, _⟩, rfl⟩
   rcases Bool.eq_false_or_eq_true x56 with hc58 | hc58
   ·
    rw [if_pos hc58] at hm
    refine t_resp 9 rfl (v' := .bool true) (by rw [hc58] <;> rfl) ?_
    refine t_st rfl (st_not_t rfl) ?_
    refine t_mv rfl rfl ?_
    refine t_yes 11 rfl rfl rfl ?_
    refine t_mv rfl rfl ?_
    refine t_yes 11 rfl rfl rfl ?_
    obtain ⟨x59, hcl60, hm⟩ := bindS hm
    refine t_do rfl (u_callW0 _ call16 rfl (fun w ho => cFareWithin _ [] x2 1 4 x59 hcl60) (fun _ _ _ h => h.2.symm)) ?_
    rintro _ _ ⟨⟨_, rfl, _⟩, rfl⟩
    rcases Bool.eq_false_or_eq_true x59 with hc61 | hc61
    ·
     rw [if_pos hc61] at hm
     refine t_resp 13 rfl (v' := .bool true) (by rw [hc61] <;> rfl) ?_
     refine t_yes 11 rfl rfl rfl ?_
     refine t_st rfl (st_not_t rfl) ?_
     refine t_st rfl (st_pick_f rfl rfl) ?_
     refine t_mv rfl rfl ?_
     refine t_yes 16 rfl rfl rfl ?_
     refine t_mv rfl rfl ?_
     refine t_yes 16 rfl rfl rfl ?_
     obtain ⟨x62, hcl63, hm⟩ := bindS hm
     refine t_do rfl (u_callW0 _ call16 rfl (fun w ho => cFareWithin _ [] x3 2 12 x62 hcl63) (fun _ _ _ h => h.2.symm)) ?_
     rintro _ _ ⟨⟨_, rfl, _⟩, rfl⟩
     refine t_yes 16 rfl rfl rfl ?_
     refine t_st rfl (st_not rfl) ?_
     refine t_st rfl (st_pick_f rfl rfl) ?_
     refine t_nil ?_
     obtain rfl := some1 hm
     exact x_join (e' := [(0, .int .i64 (x1)), (1, .int .i64 (x2)), (2, .int .i64 (x3)), (20, .bool (!x62))]) ⟨rfl, rfl, rfl, rfl, trivial⟩ (.refl _) ⟨rfl, rfl, (Base.Le.refl _)⟩
    ·
     rw [if_neg (fun hh => Bool.noConfusion (hh.symm.trans hc61))] at hm
     refine t_resp 13 rfl (v' := .bool false) (by rw [hc61] <;> rfl) ?_
     refine t_yes 11 rfl rfl rfl ?_
     refine t_st rfl (st_not_f rfl) ?_
     refine t_st rfl (st_pick_f rfl rfl) ?_
     refine t_mv rfl rfl ?_
     refine t_no 16 rfl rfl rfl rfl rfl ?_
     refine t_no 16 rfl rfl rfl rfl rfl ?_
     refine t_no 16 rfl rfl rfl rfl rfl ?_
     refine t_st rfl (st_pick_t rfl rfl) ?_
     refine t_nil ?_
     obtain rfl := some1 hm
     exact x_join (e' := [(0, .int .i64 (x1)), (1, .int .i64 (x2)), (2, .int .i64 (x3)), (20, .bool (true))]) ⟨rfl, rfl, rfl, rfl, trivial⟩ (.refl _) ⟨rfl, rfl, (Base.Le.refl _)⟩
   ·
    rw [if_neg (fun hh => Bool.noConfusion (hh.symm.trans hc58))] at hm
    refine t_resp 9 rfl (v' := .bool false) (by rw [hc58] <;> rfl) ?_
    refine t_st rfl (st_not_f rfl) ?_
    refine t_mv rfl rfl ?_
    refine t_no 11 rfl rfl rfl rfl rfl ?_
    refine t_no 11 rfl rfl rfl rfl rfl ?_
    refine t_no 11 rfl rfl rfl rfl rfl ?_
    refine t_st rfl (st_pick_t rfl rfl) ?_
    refine t_mv rfl rfl ?_
    refine t_no 16 rfl rfl rfl rfl rfl ?_
    refine t_no 16 rfl rfl rfl rfl rfl ?_
    refine t_no 16 rfl rfl rfl rfl rfl ?_
    refine t_st rfl (st_pick_t rfl rfl) ?_
    refine t_nil ?_
    obtain rfl := some1 hm
    exact x_join (e' := [(0, .int .i64 (x1)), (1, .int .i64 (x2)), (2, .int .i64 (x3)), (20, .bool (true))]) ⟨rfl, rfl, rfl, rfl, trivial⟩ (.refl _) ⟨rfl, rfl, (Base.Le.refl _)⟩
  ·
   rintro b52 _ _ ⟨rfl, rfl, hle53⟩
   have hm := hk55
   refine c_cond _ rfl (fun hc64 => ?_) (fun hc64 => ?_)
   ·
    rw [if_pos hc64] at hm
    refine c_sr ?_
    refine t_as rfl rfl ?_
    refine t_as rfl rfl ?_
    refine t_ne ?_
    refine c_ret ?_
    refine x_then_ret ?_
    cases hm
   ·
    rw [if_neg (fun hh => Bool.noConfusion (hh.symm.trans hc64))] at hm
    refine c_skip ?_
    refine x_then_normal ?_
    refine c_sr ?_
    refine t_mv rfl rfl ?_
    refine t_mv rfl rfl ?_
    refine t_mv rfl rfl ?_
    refine t_st rfl (st_build (v := .agg #[.int .i64 (x1), .int .i64 (x2), .int .i64 (x3), .slice none 0 0, .slice none 0 0]) [(0, .int .i64 (x1)), (1, .int .i64 (x2)), (2, .int .i64 (x3))] rfl (fun _ => by kernel_rfl)) ?_
    refine t_do rfl (u_box _ rfl rfl) ?_
    rintro _ _ ⟨g65, rfl, rfl⟩
    refine t_as rfl rfl ?_
    refine t_as rfl rfl ?_
    refine t_ne ?_
    refine c_ret ?_
    obtain ⟨rfl, rfl, rfl, rfl, rfl⟩ := some5 hm
    exact retM (rs := [.tmp 6, .tmp 7]) [.pointer (some ⟨g65, 0, none⟩), .int .i64 (0)] hle53 (by decide) rfl ⟨rfl, ⟨rfl, trivial⟩⟩ rfl (.refl _) ⟨g65, none, 0, [], none, 0, [], rfl, rfl, OS.nil, ⟨fun _ => rfl, fun _ => rfl⟩, OS.nil, ⟨fun _ => rfl, fun _ => rfl⟩⟩

set_option maxRecDepth 20000 in
theorem cFareCondSize : ∀ (N : Nat) (b : Base) (R : Hp) (s1 : FareCond) (x91 : Int) (x92 : Int) (hm : mFareCondSize N s1 = some (x91, x92)),
    CallsG Tryz.prog 70 [.agg #[.int .i64 (s1.Kind), .int .i64 (s1.A), .int .i64 (s1.B), .slice none 0 0]] b (R) (fun v b' hp' => .tuple #[.int .i64 (x91), .int .i64 (x92)] = v ∧ R = hp') := by
  intro N
  induction N with
  | zero =>
    intro b R s1 x91 x92 hm
    unfold mFareCondSize at hm
    cases hm
  | succ N ih =>
    intro b R s1 x91 x92 hm
    refine fn_enterG 30 Tryz.func70 rfl Tryz.ntmps70 rfl ?_
    unfold mFareCondSize at hm
    refine c_sr ?_
    refine t_do rfl (u_box _ rfl rfl) ?_
    rintro _ _ ⟨g93, rfl, rfl⟩
    refine t_as rfl rfl ?_
    refine t_as rfl rfl ?_
    refine t_ne ?_
    refine c_sr ?_
    refine t_as rfl rfl ?_
    refine t_ne ?_
    refine c_seq ?_
    refine c_sr ?_
    refine t_st rfl (st_field rfl fld59_3) ?_
    refine t_st rfl (st_load 0 rfl one57 rfl rfl) ?_
    refine t_st rfl (st_len0 rfl sl57) ?_
    refine t_mv rfl rfl ?_
    refine t_ne ?_
    refine c_block ?_
    obtain ⟨⟨x129, x130⟩, hl132, hk133⟩ := bindS hm
    refine c_forS (fun k131 => unc2 fun x129 x130 => fun b127 e' hp' => [(2, .int .i64 (x129)), (3, .int .i64 (x130)), (9, .slice none 0 0), (10, .int .i64 (0)), (11, .int .i64 ((k131 : Int)))] = e' ∧ R = hp' ∧ b.Le b127) hl132 (e' := [(2, .int .i64 (1)), (3, .int .i64 (0)), (9, .slice none 0 0), (10, .int .i64 (0)), (11, .int .i64 0)]) ⟨rfl, rfl, rfl, rfl, rfl, trivial⟩ (.cons _ (.refl _)) ⟨rfl, rfl, (Base.Le.refl _)⟩ ?_ ?_
    ·
     rintro k131 ⟨x129, x130⟩ b127 _ _ oL94 hknL94 ⟨rfl, rfl, hle128⟩ hstepL94
     unfold mFareCondSize_L94 at hstepL94
     have hm := (unc2E hstepL94)
     refine c_sr ?_
     refine t_st rfl (st_lss_t rfl rfl (by omega)) ?_
     refine t_ne ?_
     refine c_seq ?_
     refine c_cond_t rfl ?_
     refine c_skip ?_
     refine x_then_normal ?_
     refine c_seq ?_
     refine c_block ?_
     refine c_sr ?_
     obtain ⟨x134, h135, hm⟩ := bindS hm
     obtain ⟨j136, hj137, hx138⟩ := idx_some h135
     obtain ⟨cs139, hr140, hcs141, hA142, hlt143⟩ := FZ.get (sz := 4) rfl (by decide) (FZ.nil (r := rFareCond) (A := none)) hx138
     obtain ⟨_, _, rfl, rfl, ⟨_, _, rfl, rfl, ⟨_, _, rfl, rfl, rfl⟩⟩⟩ := hr140
     refine t_st rfl (st_index_old j136 rfl rfl hj137 hlt143 hA142 sl57) ?_
     refine t_st rfl (st_loadN_old (vs := [.int .i64 (x134.Kind), .int .i64 (x134.A), .int .i64 (x134.B), .slice none 0 0]) 4 rfl agg59 hA142 rfl (fun j u hu => hcs141 j u hu)) ?_
     refine t_do rfl (u_alloc [.int .i64 0, .int .i64 0, .int .i64 0, .slice none 0 0] zero59 rfl) ?_
     rintro _ _ ⟨g144, rfl, rfl⟩
     refine t_do rfl (u_storeN (vs := [_, _, _, _]) 0 4 rfl rfl rfl siz59 rfl (mem_c rfl (mem_c rfl (mem_c rfl (mem_c rfl mem_n)))) rfl (by simp)) ?_
     rintro _ _ rfl
     refine t_ne ?_
     refine c_sr ?_
     refine t_st rfl (st_loadD (vs := [_, _, _, _]) 0 4 rfl agg59 rfl rfl rfl) ?_
     obtain ⟨⟨x145, x146⟩, hcl147, hm⟩ := bindS hm
     have hm := (unc2E hm)
     refine t_do rfl (u_callW0 _ call70 rfl (fun w ho => ih _ [] x134 x145 x146 hcl147) (fun _ _ _ h => h.2.symm)) ?_
     rintro _ _ ⟨⟨_, rfl, _⟩, rfl⟩
     refine t_mv rfl rfl ?_
     refine t_st rfl (st_extract rfl rfl) ?_
     refine t_st rfl (st_extract rfl rfl) ?_
     refine t_as rfl rfl ?_
     refine t_as rfl rfl ?_
     refine t_ne ?_
     refine c_sr ?_
     refine t_mv rfl rfl ?_
     refine t_mv rfl rfl ?_
     obtain ⟨_, h148, hm⟩ := bindS hm
     have h148 := (chk_some h148).2
     refine t_st rfl (st_add rfl rfl h148) ?_
     refine t_as rfl rfl ?_
     refine t_ne ?_
     refine c_region ?_
     refine t_mv rfl rfl ?_
     refine t_mv rfl rfl ?_
     refine t_st rfl (st_max rfl rfl) ?_
     refine t_as rfl rfl ?_
     refine t_nil ?_
     refine x_block_normal ?_
     refine x_then_normal ?_
     refine c_region ?_
     refine t_st rfl (st_add rfl rfl (by omega)) ?_
     refine t_mv rfl rfl ?_
     refine t_nil ?_
     obtain rfl := some1 hm
     exact x_againS (e' := [(2, .int .i64 (x129 + x145)), (3, .int .i64 (max x130 x146)), (9, .slice none 0 0), (10, .int .i64 (0)), (11, .int .i64 ((k131 : Int) + 1))]) ⟨rfl, rfl, rfl, rfl, rfl, trivial⟩ (.cons _ (.refl _)) ⟨rfl, rfl, (hle128)⟩
    ·
     rintro b127 _ _ ⟨rfl, rfl, hle128⟩
     have hm := (unc2E hk133)
     refine c_sr ?_
     refine t_st rfl (st_lss_f rfl rfl (by omega)) ?_
     refine t_ne ?_
     refine c_seq ?_
     refine c_cond_f rfl ?_
     refine c_exit ?_
     refine x_then_exit ?_
     refine x_then_exit ?_
     refine x_block_out ?_
     refine x_then_normal ?_
     refine c_sr ?_
     refine t_mv rfl rfl ?_
     refine t_mv rfl rfl ?_
     obtain ⟨_, h149, hm⟩ := bindS hm
     have h149 := (chk_some h149).2
     refine t_st rfl (st_add rfl rfl h149) ?_
     refine t_as rfl rfl ?_
     refine t_as rfl rfl ?_
     refine t_ne ?_
     refine c_ret ?_
     obtain ⟨rfl, rfl⟩ := some2 hm
     exact retM (rs := [.tmp 2, .tmp 3]) [.int .i64 (x129), .int .i64 (x130 + 1)] hle128 (by decide) rfl ⟨rfl, ⟨rfl, trivial⟩⟩ rfl (.refl _) ⟨rfl, rfl⟩

set_option maxRecDepth 20000 in
theorem cFareNumbers (b : Base) (R : Hp) (x1 : Int) (x22 : Int) (hm : mFareNumbers x1 = some x22) :
    CallsG Tryz.prog 100 [.int .i64 (x1)] b (R) (fun v b' hp' => .int .i64 (x22) = v ∧ R = hp') := by
  refine fn_enterG 13 Tryz.func100 rfl Tryz.ntmps100 rfl ?_
  unfold mFareNumbers at hm
  refine c_sr ?_
  refine t_as rfl rfl ?_
  refine t_ne ?_
  refine c_seq ?_
  refine c_sr ?_
  refine t_mv rfl rfl ?_
  refine t_ne ?_
  refine c_block ?_
  obtain ⟨x28, hj29, hk29⟩ := bindS hm
  refine c_join (fun b26 e' hp' => [(3, .int .i64 (x1)), (4, .bool (x28))] = e' ∧ R = hp' ∧ b.Le b26) ?_ ?_
  ·
   have hm := hj29
   refine c_sr ?_
   refine t_st rfl (st_eql rfl rfl) ?_
   refine t_as rfl rfl ?_
   refine t_ne ?_
   refine c_cond _ rfl (fun hc30 => ?_) (fun hc30 => ?_)
   ·
    rw [if_pos (of_decide_eq_true hc30)] at hm
    refine c_skip ?_
    obtain rfl := some1 hm
    exact x_join (e' := [(3, .int .i64 (x1)), (4, .bool (decide (x1 = 2)))]) ⟨rfl, rfl, trivial⟩ (.refl _) ⟨rfl, rfl, (Base.Le.refl _)⟩
   ·
    rw [if_neg (of_decide_eq_false hc30)] at hm
    refine c_sr ?_
    refine t_st rfl (st_eql rfl rfl) ?_
    refine t_as rfl rfl ?_
    refine t_ne ?_
    refine c_cond _ rfl (fun hc31 => ?_) (fun hc31 => ?_)
    ·
     rw [if_pos (of_decide_eq_true hc31)] at hm
     refine c_skip ?_
     obtain rfl := some1 hm
     exact x_join (e' := [(3, .int .i64 (x1)), (4, .bool (decide (x1 = 3)))]) ⟨rfl, rfl, trivial⟩ (.refl _) ⟨rfl, rfl, (Base.Le.refl _)⟩
    ·
     rw [if_neg (of_decide_eq_false hc31)] at hm
     refine c_sr ?_
     refine t_st rfl (st_eql rfl rfl) ?_
     refine t_as rfl rfl ?_
     refine t_ne ?_
     refine c_cond _ rfl (fun hc32 => ?_) (fun hc32 => ?_)
     ·
      rw [if_pos (of_decide_eq_true hc32)] at hm
      refine c_skip ?_
      obtain rfl := some1 hm
      exact x_join (e' := [(3, .int .i64 (x1)), (4, .bool (decide (x1 = 4)))]) ⟨rfl, rfl, trivial⟩ (.refl _) ⟨rfl, rfl, (Base.Le.refl _)⟩
     ·
      rw [if_neg (of_decide_eq_false hc32)] at hm
      refine c_region ?_
      refine t_st rfl (st_eql rfl rfl) ?_
      refine t_as rfl rfl ?_
      refine t_nil ?_
      obtain rfl := some1 hm
      exact x_join (e' := [(3, .int .i64 (x1)), (4, .bool (decide (x1 = 5)))]) ⟨rfl, rfl, trivial⟩ (.refl _) ⟨rfl, rfl, (Base.Le.refl _)⟩
  ·
   rintro b26 _ _ ⟨rfl, rfl, hle27⟩
   have hm := hk29
   refine c_cond _ rfl (fun hc33 => ?_) (fun hc33 => ?_)
   ·
    rw [if_pos hc33] at hm
    refine c_sr ?_
    refine t_as rfl rfl ?_
    refine t_ne ?_
    refine c_ret ?_
    refine x_block_ret ?_
    refine x_then_ret ?_
    obtain rfl := some1 hm
    exact retM (rs := [.tmp 2]) [.int .i64 (2)] hle27 (by decide) rfl ⟨rfl, trivial⟩ rfl (.refl _) ⟨rfl, rfl⟩
   ·
    rw [if_neg (fun hh => Bool.noConfusion (hh.symm.trans hc33))] at hm
    obtain ⟨x38, hj39, hk39⟩ := bindS hm
    refine c_join (fun b36 e' hp' => [(9, .bool (x38))] = e' ∧ R = hp' ∧ b26.Le b36) ?_ ?_
    ·
     have hm := hj39
     refine c_sr ?_
     refine t_st rfl (st_eql rfl rfl) ?_
     refine t_as rfl rfl ?_
     refine t_ne ?_
     refine c_cond _ rfl (fun hc40 => ?_) (fun hc40 => ?_)
     ·
      rw [if_pos (of_decide_eq_true hc40)] at hm
      refine c_skip ?_
      obtain rfl := some1 hm
      exact x_join (e' := [(9, .bool (decide (x1 = 6)))]) ⟨rfl, trivial⟩ (.refl _) ⟨rfl, rfl, (Base.Le.refl _)⟩
     ·
      rw [if_neg (of_decide_eq_false hc40)] at hm
      refine c_sr ?_
      refine t_st rfl (st_eql rfl rfl) ?_
      refine t_as rfl rfl ?_
      refine t_ne ?_
      refine c_cond _ rfl (fun hc41 => ?_) (fun hc41 => ?_)
      ·
       rw [if_pos (of_decide_eq_true hc41)] at hm
       refine c_skip ?_
       obtain rfl := some1 hm
       exact x_join (e' := [(9, .bool (decide (x1 = 7)))]) ⟨rfl, trivial⟩ (.refl _) ⟨rfl, rfl, (Base.Le.refl _)⟩
      ·
       rw [if_neg (of_decide_eq_false hc41)] at hm
       refine c_region ?_
       refine t_st rfl (st_eql rfl rfl) ?_
       refine t_as rfl rfl ?_
       refine t_nil ?_
       obtain rfl := some1 hm
       exact x_join (e' := [(9, .bool (decide (x1 = 8)))]) ⟨rfl, trivial⟩ (.refl _) ⟨rfl, rfl, (Base.Le.refl _)⟩
    ·
     rintro b36 _ _ ⟨rfl, rfl, hle37⟩
     have hm := hk39
     refine c_cond _ rfl (fun hc42 => ?_) (fun hc42 => ?_)
     ·
      rw [if_pos hc42] at hm
      refine c_sr ?_
      refine t_as rfl rfl ?_
      refine t_ne ?_
      refine c_ret ?_
      refine x_block_ret ?_
      refine x_then_ret ?_
      obtain rfl := some1 hm
      exact retM (rs := [.tmp 2]) [.int .i64 (1)] (hle27.trans hle37) (by decide) rfl ⟨rfl, trivial⟩ rfl (.refl _) ⟨rfl, rfl⟩
     ·
      rw [if_neg (fun hh => Bool.noConfusion (hh.symm.trans hc42))] at hm
      refine c_skip ?_
      refine x_block_normal ?_
      refine x_then_normal ?_
      refine c_sr ?_
      refine t_as rfl rfl ?_
      refine t_ne ?_
      refine c_ret ?_
      obtain rfl := some1 hm
      exact retM (rs := [.tmp 2]) [.int .i64 (0)] (hle27.trans hle37) (by decide) rfl ⟨rfl, trivial⟩ rfl (.refl _) ⟨rfl, rfl⟩

set_option maxRecDepth 20000 in
theorem cFareCondNode : ∀ (N : Nat) (b : Base) (R : Hp) (s1 : FareCond) (x212 : Int) (hm : mFareCondNode N s1 = some x212),
    CallsG Tryz.prog 71 [.agg #[.int .i64 (s1.Kind), .int .i64 (s1.A), .int .i64 (s1.B), .slice none 0 0]] b (R) (fun v b' hp' => .int .i64 (x212) = v ∧ R = hp') := by
  intro N
  induction N with
  | zero =>
    intro b R s1 x212 hm
    unfold mFareCondNode at hm
    cases hm
  | succ N ih =>
    intro b R s1 x212 hm
    refine fn_enterG 99 Tryz.func71 rfl Tryz.ntmps71 rfl ?_
    unfold mFareCondNode at hm
    refine c_sr ?_
    refine t_do rfl (u_box _ rfl rfl) ?_
    rintro _ _ ⟨g213, rfl, rfl⟩
    refine t_as rfl rfl ?_
    refine t_ne ?_
    refine c_sr ?_
    refine t_st rfl (st_field rfl fld59_0) ?_
    refine t_st rfl (st_load 0 rfl one3 rfl rfl) ?_
    obtain ⟨x214, hcl215, hm⟩ := bindS hm
    refine t_do rfl (u_callW0 _ call100 rfl (fun w ho => cFareNumbers _ [] s1.Kind x214 hcl215) (fun _ _ _ h => h.2.symm)) ?_
    rintro _ _ ⟨⟨_, rfl, _⟩, rfl⟩
    refine t_as rfl rfl ?_
    refine t_ne ?_
    refine c_seq ?_
    refine c_block ?_
    refine c_sr ?_
    refine t_st rfl (st_field rfl fld59_0) ?_
    refine t_st rfl (st_load 0 rfl one3 rfl rfl) ?_
    obtain ⟨x216, hcl217, hm⟩ := bindS hm
    refine t_do rfl (u_callW0 _ call16 rfl (fun w ho => cFareWithin _ [] s1.Kind 0 11 x216 hcl217) (fun _ _ _ h => h.2.symm)) ?_
    rintro _ _ ⟨⟨_, rfl, _⟩, rfl⟩
    refine t_st rfl (st_not rfl) ?_
    refine t_as rfl rfl ?_
    refine t_ne ?_
    refine c_cond _ rfl (fun hc218 => ?_) (fun hc218 => ?_)
    ·
     rw [if_neg (fun hh => Bool.noConfusion (hh.symm.trans (notT hc218)))] at hm
     refine c_sr ?_
     refine t_as rfl rfl ?_
     refine t_ne ?_
     refine c_ret ?_
     refine x_block_ret ?_
     refine x_then_ret ?_
     obtain rfl := some1 hm
     exact retM (rs := [.tmp 2]) [.int .i64 (15)] (Base.Le.refl _) (by decide) rfl ⟨rfl, trivial⟩ rfl (.cons _ (.refl _)) ⟨rfl, rfl⟩
    ·
     rw [if_pos (notF hc218)] at hm
     obtain ⟨x226, hj227, hk227⟩ := bindS hm
     refine c_join (fun b224 e' hp' => [(1, .pointer (some ⟨g213, 0, none⟩)), (3, .int .i64 (x214)), (15, .bool (x226))] = e' ∧ (g213, Cl 59 [.int .i64 (s1.Kind), .int .i64 (s1.A), .int .i64 (s1.B), .slice none 0 0]) :: R = hp' ∧ b.Le b224) ?_ ?_
     ·
      have hm := hj227
      refine c_region ?_
      refine t_st rfl (st_field rfl fld59_1) ?_
      refine t_st rfl (st_load 0 rfl one3 rfl rfl) ?_
      obtain ⟨x228, hcl229, hm⟩ := bindS hm
      refine t_do rfl (u_callW0 _ call16 rfl (fun w ho => cFareWithin _ [] s1.A 0 28800 x228 hcl229) (fun _ _ _ h => h.2.symm)) ?_
      rintro _ _ ⟨⟨_, rfl, _⟩, rfl⟩
      rcases Bool.eq_false_or_eq_true x228 with hc230 | hc230
      ·
       rw [if_pos hc230] at hm
       refine t_resp 18 rfl (v' := .bool true) (by rw [hc230] <;> rfl) ?_
       refine t_st rfl (st_not_t rfl) ?_
       refine t_mv rfl rfl ?_
       refine t_yes 20 rfl rfl rfl ?_
       refine t_st rfl (st_field rfl fld59_2) ?_
       refine t_yes 20 rfl rfl rfl ?_
       refine t_st rfl (st_load 0 rfl one3 rfl rfl) ?_
       refine t_yes 20 rfl rfl rfl ?_
       obtain ⟨x231, hcl232, hm⟩ := bindS hm
       refine t_do rfl (u_callW0 _ call16 rfl (fun w ho => cFareWithin _ [] s1.B 0 28800 x231 hcl232) (fun _ _ _ h => h.2.symm)) ?_
       rintro _ _ ⟨⟨_, rfl, _⟩, rfl⟩
       refine t_yes 20 rfl rfl rfl ?_
       refine t_st rfl (st_not rfl) ?_
       refine t_st rfl (st_pick_f rfl rfl) ?_
       refine t_as rfl rfl ?_
       refine t_nil ?_
       obtain rfl := some1 hm
       exact x_join (e' := [(1, .pointer (some ⟨g213, 0, none⟩)), (3, .int .i64 (x214)), (15, .bool (!x231))]) ⟨rfl, rfl, rfl, trivial⟩ (.refl _) ⟨rfl, rfl, (Base.Le.refl _)⟩
      ·
       rw [if_neg (fun hh => Bool.noConfusion (hh.symm.trans hc230))] at hm
       refine t_resp 18 rfl (v' := .bool false) (by rw [hc230] <;> rfl) ?_
       refine t_st rfl (st_not_f rfl) ?_
       refine t_mv rfl rfl ?_
       refine t_no 20 rfl rfl rfl rfl rfl ?_
       refine t_no 20 rfl rfl rfl rfl rfl ?_
       refine t_no 20 rfl rfl rfl rfl rfl ?_
       refine t_no 20 rfl rfl rfl rfl rfl ?_
       refine t_st rfl (st_pick_t rfl rfl) ?_
       refine t_as rfl rfl ?_
       refine t_nil ?_
       obtain rfl := some1 hm
       exact x_join (e' := [(1, .pointer (some ⟨g213, 0, none⟩)), (3, .int .i64 (x214)), (15, .bool (true))]) ⟨rfl, rfl, rfl, trivial⟩ (.refl _) ⟨rfl, rfl, (Base.Le.refl _)⟩
     ·
      rintro b224 _ _ ⟨rfl, rfl, hle225⟩
      have hm := hk227
      refine c_cond _ rfl (fun hc233 => ?_) (fun hc233 => ?_)
      ·
       rw [if_pos hc233] at hm
       refine c_sr ?_
       refine t_as rfl rfl ?_
       refine t_ne ?_
       refine c_ret ?_
       refine x_block_ret ?_
       refine x_then_ret ?_
       obtain rfl := some1 hm
       exact retM (rs := [.tmp 2]) [.int .i64 (2)] hle225 (by decide) rfl ⟨rfl, trivial⟩ rfl (.cons _ (.refl _)) ⟨rfl, rfl⟩
      ·
       rw [if_neg (fun hh => Bool.noConfusion (hh.symm.trans hc233))] at hm
       obtain ⟨x246, hj247, hk247⟩ := bindS hm
       refine c_join (fun b244 e' hp' => [(1, .pointer (some ⟨g213, 0, none⟩)), (26, .bool (x246))] = e' ∧ (g213, Cl 59 [.int .i64 (s1.Kind), .int .i64 (s1.A), .int .i64 (s1.B), .slice none 0 0]) :: R = hp' ∧ b224.Le b244) ?_ ?_
       ·
        have hm := hj247
        refine c_region ?_
        refine t_mv rfl rfl ?_
        refine t_bool rfl (st_lss rfl rfl) (fun hc248 => ?_) (fun hc248 => ?_)
        ·
         rw [if_pos hc248] at hm
         refine t_mv rfl rfl ?_
         refine t_yes 29 rfl rfl rfl ?_
         refine t_st rfl (st_field rfl fld59_1) ?_
         refine t_yes 29 rfl rfl rfl ?_
         refine t_st rfl (st_load 0 rfl one3 rfl rfl) ?_
         refine t_yes 29 rfl rfl rfl ?_
         refine t_bool rfl (st_neq rfl rfl) (fun hc249 => ?_) (fun hc249 => ?_)
         ·
          rw [if_pos hc249] at hm
          refine t_st rfl (st_pick_t rfl rfl) ?_
          refine t_mv rfl rfl ?_
          refine t_no 34 rfl rfl rfl rfl rfl ?_
          refine t_no 34 rfl rfl rfl rfl rfl ?_
          refine t_no 34 rfl rfl rfl rfl rfl ?_
          refine t_no 37 rfl rfl rfl rfl rfl ?_
          refine t_no 37 rfl rfl rfl rfl rfl ?_
          refine t_no 37 rfl rfl rfl rfl rfl ?_
          refine t_no 34 rfl rfl rfl rfl rfl ?_
          refine t_st rfl (st_pick_t rfl rfl) ?_
          refine t_mv rfl rfl ?_
          refine t_no 43 rfl rfl rfl rfl rfl ?_
          refine t_no 43 rfl rfl rfl rfl rfl ?_
          refine t_no 43 rfl rfl rfl rfl rfl ?_
          refine t_no 46 rfl rfl rfl rfl rfl ?_
          refine t_no 46 rfl rfl rfl rfl rfl ?_
          refine t_no 46 rfl rfl rfl rfl rfl ?_
          refine t_no 46 rfl rfl rfl rfl rfl ?_
          refine t_no 46 rfl rfl rfl rfl rfl ?_
          refine t_no 43 rfl rfl rfl rfl rfl ?_
          refine t_st rfl (st_pick_t rfl rfl) ?_
          refine t_as rfl rfl ?_
          refine t_nil ?_
          obtain rfl := some1 hm
          exact x_join (e' := [(1, .pointer (some ⟨g213, 0, none⟩)), (26, .bool (true))]) ⟨rfl, rfl, trivial⟩ (.refl _) ⟨rfl, rfl, (Base.Le.refl _)⟩
         ·
          rw [if_neg hc249] at hm
          refine t_st rfl (st_pick_t rfl rfl) ?_
          refine t_mv rfl rfl ?_
          refine t_yes 34 rfl rfl rfl ?_
          refine t_mv rfl rfl ?_
          refine t_yes 34 rfl rfl rfl ?_
          refine t_bool rfl (st_lss rfl rfl) (fun hc250 => ?_) (fun hc250 => ?_)
          ·
           rw [if_pos hc250] at hm
           refine t_yes 34 rfl rfl rfl ?_
           refine t_mv rfl rfl ?_
           refine t_yes 37 rfl rfl rfl ?_
           refine t_st rfl (st_field rfl fld59_2) ?_
           refine t_yes 37 rfl rfl rfl ?_
           refine t_st rfl (st_load 0 rfl one3 rfl rfl) ?_
           refine t_yes 37 rfl rfl rfl ?_
           refine t_bool rfl (st_neq rfl rfl) (fun hc251 => ?_) (fun hc251 => ?_)
           ·
            rw [if_pos hc251] at hm
            refine t_yes 34 rfl rfl rfl ?_
            refine t_st rfl (st_pick_t rfl rfl) ?_
            refine t_st rfl (st_pick_f rfl rfl) ?_
            refine t_mv rfl rfl ?_
            refine t_no 43 rfl rfl rfl rfl rfl ?_
            refine t_no 43 rfl rfl rfl rfl rfl ?_
            refine t_no 43 rfl rfl rfl rfl rfl ?_
            refine t_no 46 rfl rfl rfl rfl rfl ?_
            refine t_no 46 rfl rfl rfl rfl rfl ?_
            refine t_no 46 rfl rfl rfl rfl rfl ?_
            refine t_no 46 rfl rfl rfl rfl rfl ?_
            refine t_no 46 rfl rfl rfl rfl rfl ?_
            refine t_no 43 rfl rfl rfl rfl rfl ?_
            refine t_st rfl (st_pick_t rfl rfl) ?_
            refine t_as rfl rfl ?_
            refine t_nil ?_
            obtain rfl := some1 hm
            exact x_join (e' := [(1, .pointer (some ⟨g213, 0, none⟩)), (26, .bool (true))]) ⟨rfl, rfl, trivial⟩ (.refl _) ⟨rfl, rfl, (Base.Le.refl _)⟩
           ·
            rw [if_neg hc251] at hm
            refine t_yes 34 rfl rfl rfl ?_
            refine t_st rfl (st_pick_t rfl rfl) ?_
            refine t_st rfl (st_pick_f rfl rfl) ?_
            refine t_mv rfl rfl ?_
            refine t_yes 43 rfl rfl rfl ?_
            refine t_mv rfl rfl ?_
            refine t_yes 43 rfl rfl rfl ?_
            refine t_bool rfl (st_eql rfl rfl) (fun hc252 => ?_) (fun hc252 => ?_)
            ·
             rw [if_pos hc252] at hm
             refine t_yes 43 rfl rfl rfl ?_
             refine t_mv rfl rfl ?_
             refine t_yes 46 rfl rfl rfl ?_
             refine t_st rfl (st_field rfl fld59_1) ?_
             refine t_yes 46 rfl rfl rfl ?_
             refine t_st rfl (st_load 0 rfl one3 rfl rfl) ?_
             refine t_yes 46 rfl rfl rfl ?_
             refine t_st rfl (st_field rfl fld59_2) ?_
             refine t_yes 46 rfl rfl rfl ?_
             refine t_st rfl (st_load 0 rfl one3 rfl rfl) ?_
             refine t_yes 46 rfl rfl rfl ?_
             refine t_st rfl (st_gtr rfl rfl) ?_
             refine t_yes 43 rfl rfl rfl ?_
             refine t_st rfl (st_pick_t rfl rfl) ?_
             refine t_st rfl (st_pick_f rfl rfl) ?_
             refine t_as rfl rfl ?_
             refine t_nil ?_
             obtain rfl := some1 hm
             exact x_join (e' := [(1, .pointer (some ⟨g213, 0, none⟩)), (26, .bool (decide (s1.B < s1.A)))]) ⟨rfl, rfl, trivial⟩ (.refl _) ⟨rfl, rfl, (Base.Le.refl _)⟩
            ·
             rw [if_neg hc252] at hm
             refine t_yes 43 rfl rfl rfl ?_
             refine t_mv rfl rfl ?_
             refine t_no 46 rfl rfl rfl rfl rfl ?_
             refine t_no 46 rfl rfl rfl rfl rfl ?_
             refine t_no 46 rfl rfl rfl rfl rfl ?_
             refine t_no 46 rfl rfl rfl rfl rfl ?_
             refine t_no 46 rfl rfl rfl rfl rfl ?_
             refine t_yes 43 rfl rfl rfl ?_
             refine t_st rfl (st_pick_f rfl rfl) ?_
             refine t_st rfl (st_pick_f rfl rfl) ?_
             refine t_as rfl rfl ?_
             refine t_nil ?_
             obtain rfl := some1 hm
             exact x_join (e' := [(1, .pointer (some ⟨g213, 0, none⟩)), (26, .bool (false))]) ⟨rfl, rfl, trivial⟩ (.refl _) ⟨rfl, rfl, (Base.Le.refl _)⟩
          ·
           rw [if_neg hc250] at hm
           refine t_yes 34 rfl rfl rfl ?_
           refine t_mv rfl rfl ?_
           refine t_no 37 rfl rfl rfl rfl rfl ?_
           refine t_no 37 rfl rfl rfl rfl rfl ?_
           refine t_no 37 rfl rfl rfl rfl rfl ?_
           refine t_yes 34 rfl rfl rfl ?_
           refine t_st rfl (st_pick_f rfl rfl) ?_
           refine t_st rfl (st_pick_f rfl rfl) ?_
           refine t_mv rfl rfl ?_
           refine t_yes 43 rfl rfl rfl ?_
           refine t_mv rfl rfl ?_
           refine t_yes 43 rfl rfl rfl ?_
           refine t_bool rfl (st_eql rfl rfl) (fun hc253 => ?_) (fun hc253 => ?_)
           ·
            rw [if_pos hc253] at hm
            refine t_yes 43 rfl rfl rfl ?_
            refine t_mv rfl rfl ?_
            refine t_yes 46 rfl rfl rfl ?_
            refine t_st rfl (st_field rfl fld59_1) ?_
            refine t_yes 46 rfl rfl rfl ?_
            refine t_st rfl (st_load 0 rfl one3 rfl rfl) ?_
            refine t_yes 46 rfl rfl rfl ?_
            refine t_st rfl (st_field rfl fld59_2) ?_
            refine t_yes 46 rfl rfl rfl ?_
            refine t_st rfl (st_load 0 rfl one3 rfl rfl) ?_
            refine t_yes 46 rfl rfl rfl ?_
            refine t_st rfl (st_gtr rfl rfl) ?_
            refine t_yes 43 rfl rfl rfl ?_
            refine t_st rfl (st_pick_t rfl rfl) ?_
            refine t_st rfl (st_pick_f rfl rfl) ?_
            refine t_as rfl rfl ?_
            refine t_nil ?_
            obtain rfl := some1 hm
            exact x_join (e' := [(1, .pointer (some ⟨g213, 0, none⟩)), (26, .bool (decide (s1.B < s1.A)))]) ⟨rfl, rfl, trivial⟩ (.refl _) ⟨rfl, rfl, (Base.Le.refl _)⟩
           ·
            rw [if_neg hc253] at hm
            refine t_yes 43 rfl rfl rfl ?_
            refine t_mv rfl rfl ?_
            refine t_no 46 rfl rfl rfl rfl rfl ?_
            refine t_no 46 rfl rfl rfl rfl rfl ?_
            refine t_no 46 rfl rfl rfl rfl rfl ?_
            refine t_no 46 rfl rfl rfl rfl rfl ?_
            refine t_no 46 rfl rfl rfl rfl rfl ?_
            refine t_yes 43 rfl rfl rfl ?_
            refine t_st rfl (st_pick_f rfl rfl) ?_
            refine t_st rfl (st_pick_f rfl rfl) ?_
            refine t_as rfl rfl ?_
            refine t_nil ?_
            obtain rfl := some1 hm
            exact x_join (e' := [(1, .pointer (some ⟨g213, 0, none⟩)), (26, .bool (false))]) ⟨rfl, rfl, trivial⟩ (.refl _) ⟨rfl, rfl, (Base.Le.refl _)⟩
        ·
         rw [if_neg hc248] at hm
         refine t_mv rfl rfl ?_
         refine t_no 29 rfl rfl rfl rfl rfl ?_
         refine t_no 29 rfl rfl rfl rfl rfl ?_
         refine t_no 29 rfl rfl rfl rfl rfl ?_
         refine t_st rfl (st_pick_f rfl rfl) ?_
         refine t_mv rfl rfl ?_
         refine t_yes 34 rfl rfl rfl ?_
         refine t_mv rfl rfl ?_
         refine t_yes 34 rfl rfl rfl ?_
         refine t_bool rfl (st_lss rfl rfl) (fun hc254 => ?_) (fun hc254 => ?_)
         ·
          rw [if_pos hc254] at hm
          refine t_yes 34 rfl rfl rfl ?_
          refine t_mv rfl rfl ?_
          refine t_yes 37 rfl rfl rfl ?_
          refine t_st rfl (st_field rfl fld59_2) ?_
          refine t_yes 37 rfl rfl rfl ?_
          refine t_st rfl (st_load 0 rfl one3 rfl rfl) ?_
          refine t_yes 37 rfl rfl rfl ?_
          refine t_bool rfl (st_neq rfl rfl) (fun hc255 => ?_) (fun hc255 => ?_)
          ·
           rw [if_pos hc255] at hm
           refine t_yes 34 rfl rfl rfl ?_
           refine t_st rfl (st_pick_t rfl rfl) ?_
           refine t_st rfl (st_pick_f rfl rfl) ?_
           refine t_mv rfl rfl ?_
           refine t_no 43 rfl rfl rfl rfl rfl ?_
           refine t_no 43 rfl rfl rfl rfl rfl ?_
           refine t_no 43 rfl rfl rfl rfl rfl ?_
           refine t_no 46 rfl rfl rfl rfl rfl ?_
           refine t_no 46 rfl rfl rfl rfl rfl ?_
           refine t_no 46 rfl rfl rfl rfl rfl ?_
           refine t_no 46 rfl rfl rfl rfl rfl ?_
           refine t_no 46 rfl rfl rfl rfl rfl ?_
           refine t_no 43 rfl rfl rfl rfl rfl ?_
           refine t_st rfl (st_pick_t rfl rfl) ?_
           refine t_as rfl rfl ?_
           refine t_nil ?_
           obtain rfl := some1 hm
           exact x_join (e' := [(1, .pointer (some ⟨g213, 0, none⟩)), (26, .bool (true))]) ⟨rfl, rfl, trivial⟩ (.refl _) ⟨rfl, rfl, (Base.Le.refl _)⟩
          ·
           rw [if_neg hc255] at hm
           refine t_yes 34 rfl rfl rfl ?_
           refine t_st rfl (st_pick_t rfl rfl) ?_
           refine t_st rfl (st_pick_f rfl rfl) ?_
           refine t_mv rfl rfl ?_
           refine t_yes 43 rfl rfl rfl ?_
           refine t_mv rfl rfl ?_
           refine t_yes 43 rfl rfl rfl ?_
           refine t_bool rfl (st_eql rfl rfl) (fun hc256 => ?_) (fun hc256 => ?_)
           ·
            rw [if_pos hc256] at hm
            refine t_yes 43 rfl rfl rfl ?_
            refine t_mv rfl rfl ?_
            refine t_yes 46 rfl rfl rfl ?_
            refine t_st rfl (st_field rfl fld59_1) ?_
            refine t_yes 46 rfl rfl rfl ?_
            refine t_st rfl (st_load 0 rfl one3 rfl rfl) ?_
            refine t_yes 46 rfl rfl rfl ?_
            refine t_st rfl (st_field rfl fld59_2) ?_
            refine t_yes 46 rfl rfl rfl ?_
            refine t_st rfl (st_load 0 rfl one3 rfl rfl) ?_
            refine t_yes 46 rfl rfl rfl ?_
            refine t_st rfl (st_gtr rfl rfl) ?_
            refine t_yes 43 rfl rfl rfl ?_
            refine t_st rfl (st_pick_t rfl rfl) ?_
            refine t_st rfl (st_pick_f rfl rfl) ?_
            refine t_as rfl rfl ?_
            refine t_nil ?_
            obtain rfl := some1 hm
            exact x_join (e' := [(1, .pointer (some ⟨g213, 0, none⟩)), (26, .bool (decide (s1.B < s1.A)))]) ⟨rfl, rfl, trivial⟩ (.refl _) ⟨rfl, rfl, (Base.Le.refl _)⟩
           ·
            rw [if_neg hc256] at hm
            refine t_yes 43 rfl rfl rfl ?_
            refine t_mv rfl rfl ?_
            refine t_no 46 rfl rfl rfl rfl rfl ?_
            refine t_no 46 rfl rfl rfl rfl rfl ?_
            refine t_no 46 rfl rfl rfl rfl rfl ?_
            refine t_no 46 rfl rfl rfl rfl rfl ?_
            refine t_no 46 rfl rfl rfl rfl rfl ?_
            refine t_yes 43 rfl rfl rfl ?_
            refine t_st rfl (st_pick_f rfl rfl) ?_
            refine t_st rfl (st_pick_f rfl rfl) ?_
            refine t_as rfl rfl ?_
            refine t_nil ?_
            obtain rfl := some1 hm
            exact x_join (e' := [(1, .pointer (some ⟨g213, 0, none⟩)), (26, .bool (false))]) ⟨rfl, rfl, trivial⟩ (.refl _) ⟨rfl, rfl, (Base.Le.refl _)⟩
         ·
          rw [if_neg hc254] at hm
          refine t_yes 34 rfl rfl rfl ?_
          refine t_mv rfl rfl ?_
          refine t_no 37 rfl rfl rfl rfl rfl ?_
          refine t_no 37 rfl rfl rfl rfl rfl ?_
          refine t_no 37 rfl rfl rfl rfl rfl ?_
          refine t_yes 34 rfl rfl rfl ?_
          refine t_st rfl (st_pick_f rfl rfl) ?_
          refine t_st rfl (st_pick_f rfl rfl) ?_
          refine t_mv rfl rfl ?_
          refine t_yes 43 rfl rfl rfl ?_
          refine t_mv rfl rfl ?_
          refine t_yes 43 rfl rfl rfl ?_
          refine t_bool rfl (st_eql rfl rfl) (fun hc257 => ?_) (fun hc257 => ?_)
          ·
           rw [if_pos hc257] at hm
           refine t_yes 43 rfl rfl rfl ?_
           refine t_mv rfl rfl ?_
           refine t_yes 46 rfl rfl rfl ?_
           refine t_st rfl (st_field rfl fld59_1) ?_
           refine t_yes 46 rfl rfl rfl ?_
           refine t_st rfl (st_load 0 rfl one3 rfl rfl) ?_
           refine t_yes 46 rfl rfl rfl ?_
           refine t_st rfl (st_field rfl fld59_2) ?_
           refine t_yes 46 rfl rfl rfl ?_
           refine t_st rfl (st_load 0 rfl one3 rfl rfl) ?_
           refine t_yes 46 rfl rfl rfl ?_
           refine t_st rfl (st_gtr rfl rfl) ?_
           refine t_yes 43 rfl rfl rfl ?_
           refine t_st rfl (st_pick_t rfl rfl) ?_
           refine t_st rfl (st_pick_f rfl rfl) ?_
           refine t_as rfl rfl ?_
           refine t_nil ?_
           obtain rfl := some1 hm
           exact x_join (e' := [(1, .pointer (some ⟨g213, 0, none⟩)), (26, .bool (decide (s1.B < s1.A)))]) ⟨rfl, rfl, trivial⟩ (.refl _) ⟨rfl, rfl, (Base.Le.refl _)⟩
          ·
           rw [if_neg hc257] at hm
           refine t_yes 43 rfl rfl rfl ?_
           refine t_mv rfl rfl ?_
           refine t_no 46 rfl rfl rfl rfl rfl ?_
           refine t_no 46 rfl rfl rfl rfl rfl ?_
           refine t_no 46 rfl rfl rfl rfl rfl ?_
           refine t_no 46 rfl rfl rfl rfl rfl ?_
           refine t_no 46 rfl rfl rfl rfl rfl ?_
           refine t_yes 43 rfl rfl rfl ?_
           refine t_st rfl (st_pick_f rfl rfl) ?_
           refine t_st rfl (st_pick_f rfl rfl) ?_
           refine t_as rfl rfl ?_
           refine t_nil ?_
           obtain rfl := some1 hm
           exact x_join (e' := [(1, .pointer (some ⟨g213, 0, none⟩)), (26, .bool (false))]) ⟨rfl, rfl, trivial⟩ (.refl _) ⟨rfl, rfl, (Base.Le.refl _)⟩
       ·
        rintro b244 _ _ ⟨rfl, rfl, hle245⟩
        have hm := hk247
        refine c_cond _ rfl (fun hc258 => ?_) (fun hc258 => ?_)
        ·
         rw [if_pos hc258] at hm
         refine c_sr ?_
         refine t_as rfl rfl ?_
         refine t_ne ?_
         refine c_ret ?_
         refine x_block_ret ?_
         refine x_then_ret ?_
         obtain rfl := some1 hm
         exact retM (rs := [.tmp 2]) [.int .i64 (1)] (hle225.trans hle245) (by decide) rfl ⟨rfl, trivial⟩ rfl (.cons _ (.refl _)) ⟨rfl, rfl⟩
        ·
         rw [if_neg (fun hh => Bool.noConfusion (hh.symm.trans hc258))] at hm
         obtain ⟨x271, hj272, hk272⟩ := bindS hm
         refine c_join (fun b269 e' hp' => [(1, .pointer (some ⟨g213, 0, none⟩)), (54, .bool (x271))] = e' ∧ (g213, Cl 59 [.int .i64 (s1.Kind), .int .i64 (s1.A), .int .i64 (s1.B), .slice none 0 0]) :: R = hp' ∧ b244.Le b269) ?_ ?_
         ·
          have hm := hj272
          refine c_region ?_
          refine t_st rfl (st_field rfl fld59_0) ?_
          refine t_st rfl (st_load 0 rfl one3 rfl rfl) ?_
          refine t_bool rfl (st_eql rfl rfl) (fun hc273 => ?_) (fun hc273 => ?_)
          ·
           rw [if_pos hc273] at hm
           refine t_mv rfl rfl ?_
           refine t_yes 58 rfl rfl rfl ?_
           refine t_st rfl (st_field rfl fld59_3) ?_
           refine t_yes 58 rfl rfl rfl ?_
           refine t_st rfl (st_load 0 rfl one57 rfl rfl) ?_
           refine t_yes 58 rfl rfl rfl ?_
           refine t_st rfl (st_len0 rfl sl57) ?_
           refine t_yes 58 rfl rfl rfl ?_
           refine t_bool rfl (st_neq rfl rfl) (fun hc274 => ?_) (fun hc274 => ?_)
           ·
            rw [if_pos hc274] at hm
            refine t_st rfl (st_pick_t rfl rfl) ?_
            refine t_mv rfl rfl ?_
            refine t_no 64 rfl rfl rfl rfl rfl ?_
            refine t_no 64 rfl rfl rfl rfl rfl ?_
            refine t_no 64 rfl rfl rfl rfl rfl ?_
            refine t_no 64 rfl rfl rfl rfl rfl ?_
            refine t_no 68 rfl rfl rfl rfl rfl ?_
            refine t_no 68 rfl rfl rfl rfl rfl ?_
            refine t_no 68 rfl rfl rfl rfl rfl ?_
            refine t_no 68 rfl rfl rfl rfl rfl ?_
            refine t_no 64 rfl rfl rfl rfl rfl ?_
            refine t_st rfl (st_pick_t rfl rfl) ?_
            refine t_mv rfl rfl ?_
            refine t_no 75 rfl rfl rfl rfl rfl ?_
            refine t_no 75 rfl rfl rfl rfl rfl ?_
            refine t_no 75 rfl rfl rfl rfl rfl ?_
            refine t_no 75 rfl rfl rfl rfl rfl ?_
            refine t_no 79 rfl rfl rfl rfl rfl ?_
            refine t_no 79 rfl rfl rfl rfl rfl ?_
            refine t_no 79 rfl rfl rfl rfl rfl ?_
            refine t_no 79 rfl rfl rfl rfl rfl ?_
            refine t_no 75 rfl rfl rfl rfl rfl ?_
            refine t_st rfl (st_pick_t rfl rfl) ?_
            refine t_as rfl rfl ?_
            refine t_nil ?_
            obtain rfl := some1 hm
            exact x_join (e' := [(1, .pointer (some ⟨g213, 0, none⟩)), (54, .bool (true))]) ⟨rfl, rfl, trivial⟩ (.refl _) ⟨rfl, rfl, (Base.Le.refl _)⟩
           ·
            rw [if_neg hc274] at hm
            refine t_st rfl (st_pick_t rfl rfl) ?_
            refine t_mv rfl rfl ?_
            refine t_yes 64 rfl rfl rfl ?_
            refine t_st rfl (st_field rfl fld59_0) ?_
            refine t_yes 64 rfl rfl rfl ?_
            refine t_st rfl (st_load 0 rfl one3 rfl rfl) ?_
            refine t_yes 64 rfl rfl rfl ?_
            refine t_bool rfl (st_gtr rfl rfl) (fun hc275 => ?_) (fun hc275 => ?_)
            ·
             rw [if_pos hc275] at hm
             refine t_yes 64 rfl rfl rfl ?_
             refine t_mv rfl rfl ?_
             refine t_yes 68 rfl rfl rfl ?_
             refine t_st rfl (st_field rfl fld59_3) ?_
             refine t_yes 68 rfl rfl rfl ?_
             refine t_st rfl (st_load 0 rfl one57 rfl rfl) ?_
             refine t_yes 68 rfl rfl rfl ?_
             refine t_st rfl (st_len0 rfl sl57) ?_
             refine t_yes 68 rfl rfl rfl ?_
             refine t_bool rfl (st_lss rfl rfl) (fun hc276 => ?_) (fun hc276 => ?_)
             ·
              rw [if_pos hc276] at hm
              refine t_yes 64 rfl rfl rfl ?_
              refine t_st rfl (st_pick_t rfl rfl) ?_
              refine t_st rfl (st_pick_f rfl rfl) ?_
              refine t_mv rfl rfl ?_
              refine t_no 75 rfl rfl rfl rfl rfl ?_
              refine t_no 75 rfl rfl rfl rfl rfl ?_
              refine t_no 75 rfl rfl rfl rfl rfl ?_
              refine t_no 75 rfl rfl rfl rfl rfl ?_
              refine t_no 79 rfl rfl rfl rfl rfl ?_
              refine t_no 79 rfl rfl rfl rfl rfl ?_
              refine t_no 79 rfl rfl rfl rfl rfl ?_
              refine t_no 79 rfl rfl rfl rfl rfl ?_
              refine t_no 75 rfl rfl rfl rfl rfl ?_
              refine t_st rfl (st_pick_t rfl rfl) ?_
              refine t_as rfl rfl ?_
              refine t_nil ?_
              obtain rfl := some1 hm
              exact x_join (e' := [(1, .pointer (some ⟨g213, 0, none⟩)), (54, .bool (true))]) ⟨rfl, rfl, trivial⟩ (.refl _) ⟨rfl, rfl, (Base.Le.refl _)⟩
             ·
              rw [if_neg hc276] at hm
              refine t_yes 64 rfl rfl rfl ?_
              refine t_st rfl (st_pick_t rfl rfl) ?_
              refine t_st rfl (st_pick_f rfl rfl) ?_
              refine t_mv rfl rfl ?_
              refine t_yes 75 rfl rfl rfl ?_
              refine t_st rfl (st_field rfl fld59_0) ?_
              refine t_yes 75 rfl rfl rfl ?_
              refine t_st rfl (st_load 0 rfl one3 rfl rfl) ?_
              refine t_yes 75 rfl rfl rfl ?_
              refine t_bool rfl (st_lss rfl rfl) (fun hc277 => ?_) (fun hc277 => ?_)
              ·
               rw [if_pos hc277] at hm
               refine t_yes 75 rfl rfl rfl ?_
               refine t_mv rfl rfl ?_
               refine t_yes 79 rfl rfl rfl ?_
               refine t_st rfl (st_field rfl fld59_3) ?_
               refine t_yes 79 rfl rfl rfl ?_
               refine t_st rfl (st_load 0 rfl one57 rfl rfl) ?_
               refine t_yes 79 rfl rfl rfl ?_
               refine t_st rfl (st_len0 rfl sl57) ?_
               refine t_yes 79 rfl rfl rfl ?_
               refine t_st rfl (st_gtr rfl rfl) ?_
               refine t_yes 75 rfl rfl rfl ?_
               refine t_st rfl (st_pick_t rfl rfl) ?_
               refine t_st rfl (st_pick_f rfl rfl) ?_
               refine t_as rfl rfl ?_
               refine t_nil ?_
               obtain rfl := some1 hm
               exact x_join (e' := [(1, .pointer (some ⟨g213, 0, none⟩)), (54, .bool (decide ((0 : Int) < (0 : Int))))]) ⟨rfl, rfl, trivial⟩ (.refl _) ⟨rfl, rfl, (Base.Le.refl _)⟩
              ·
               rw [if_neg hc277] at hm
               refine t_yes 75 rfl rfl rfl ?_
               refine t_mv rfl rfl ?_
               refine t_no 79 rfl rfl rfl rfl rfl ?_
               refine t_no 79 rfl rfl rfl rfl rfl ?_
               refine t_no 79 rfl rfl rfl rfl rfl ?_
               refine t_no 79 rfl rfl rfl rfl rfl ?_
               refine t_yes 75 rfl rfl rfl ?_
               refine t_st rfl (st_pick_f rfl rfl) ?_
               refine t_st rfl (st_pick_f rfl rfl) ?_
               refine t_as rfl rfl ?_
               refine t_nil ?_
               obtain rfl := some1 hm
               exact x_join (e' := [(1, .pointer (some ⟨g213, 0, none⟩)), (54, .bool (false))]) ⟨rfl, rfl, trivial⟩ (.refl _) ⟨rfl, rfl, (Base.Le.refl _)⟩
            ·
             rw [if_neg hc275] at hm
             refine t_yes 64 rfl rfl rfl ?_
             refine t_mv rfl rfl ?_
             refine t_no 68 rfl rfl rfl rfl rfl ?_
             refine t_no 68 rfl rfl rfl rfl rfl ?_
             refine t_no 68 rfl rfl rfl rfl rfl ?_
             refine t_no 68 rfl rfl rfl rfl rfl ?_
             refine t_yes 64 rfl rfl rfl ?_
             refine t_st rfl (st_pick_f rfl rfl) ?_
             refine t_st rfl (st_pick_f rfl rfl) ?_
             refine t_mv rfl rfl ?_
             refine t_yes 75 rfl rfl rfl ?_
             refine t_st rfl (st_field rfl fld59_0) ?_
             refine t_yes 75 rfl rfl rfl ?_
             refine t_st rfl (st_load 0 rfl one3 rfl rfl) ?_
             refine t_yes 75 rfl rfl rfl ?_
             refine t_bool rfl (st_lss rfl rfl) (fun hc278 => ?_) (fun hc278 => ?_)
             ·
              rw [if_pos hc278] at hm
              refine t_yes 75 rfl rfl rfl ?_
              refine t_mv rfl rfl ?_
              refine t_yes 79 rfl rfl rfl ?_
              refine t_st rfl (st_field rfl fld59_3) ?_
              refine t_yes 79 rfl rfl rfl ?_
              refine t_st rfl (st_load 0 rfl one57 rfl rfl) ?_
              refine t_yes 79 rfl rfl rfl ?_
              refine t_st rfl (st_len0 rfl sl57) ?_
              refine t_yes 79 rfl rfl rfl ?_
              refine t_st rfl (st_gtr rfl rfl) ?_
              refine t_yes 75 rfl rfl rfl ?_
              refine t_st rfl (st_pick_t rfl rfl) ?_
              refine t_st rfl (st_pick_f rfl rfl) ?_
              refine t_as rfl rfl ?_
              refine t_nil ?_
              obtain rfl := some1 hm
              exact x_join (e' := [(1, .pointer (some ⟨g213, 0, none⟩)), (54, .bool (decide ((0 : Int) < (0 : Int))))]) ⟨rfl, rfl, trivial⟩ (.refl _) ⟨rfl, rfl, (Base.Le.refl _)⟩
             ·
              rw [if_neg hc278] at hm
              refine t_yes 75 rfl rfl rfl ?_
              refine t_mv rfl rfl ?_
              refine t_no 79 rfl rfl rfl rfl rfl ?_
              refine t_no 79 rfl rfl rfl rfl rfl ?_
              refine t_no 79 rfl rfl rfl rfl rfl ?_
              refine t_no 79 rfl rfl rfl rfl rfl ?_
              refine t_yes 75 rfl rfl rfl ?_
              refine t_st rfl (st_pick_f rfl rfl) ?_
              refine t_st rfl (st_pick_f rfl rfl) ?_
              refine t_as rfl rfl ?_
              refine t_nil ?_
              obtain rfl := some1 hm
              exact x_join (e' := [(1, .pointer (some ⟨g213, 0, none⟩)), (54, .bool (false))]) ⟨rfl, rfl, trivial⟩ (.refl _) ⟨rfl, rfl, (Base.Le.refl _)⟩
          ·
           rw [if_neg hc273] at hm
           refine t_mv rfl rfl ?_
           refine t_no 58 rfl rfl rfl rfl rfl ?_
           refine t_no 58 rfl rfl rfl rfl rfl ?_
           refine t_no 58 rfl rfl rfl rfl rfl ?_
           refine t_no 58 rfl rfl rfl rfl rfl ?_
           refine t_st rfl (st_pick_f rfl rfl) ?_
           refine t_mv rfl rfl ?_
           refine t_yes 64 rfl rfl rfl ?_
           refine t_st rfl (st_field rfl fld59_0) ?_
           refine t_yes 64 rfl rfl rfl ?_
           refine t_st rfl (st_load 0 rfl one3 rfl rfl) ?_
           refine t_yes 64 rfl rfl rfl ?_
           refine t_bool rfl (st_gtr rfl rfl) (fun hc279 => ?_) (fun hc279 => ?_)
           ·
            rw [if_pos hc279] at hm
            refine t_yes 64 rfl rfl rfl ?_
            refine t_mv rfl rfl ?_
            refine t_yes 68 rfl rfl rfl ?_
            refine t_st rfl (st_field rfl fld59_3) ?_
            refine t_yes 68 rfl rfl rfl ?_
            refine t_st rfl (st_load 0 rfl one57 rfl rfl) ?_
            refine t_yes 68 rfl rfl rfl ?_
            refine t_st rfl (st_len0 rfl sl57) ?_
            refine t_yes 68 rfl rfl rfl ?_
            refine t_bool rfl (st_lss rfl rfl) (fun hc280 => ?_) (fun hc280 => ?_)
            ·
             rw [if_pos hc280] at hm
             refine t_yes 64 rfl rfl rfl ?_
             refine t_st rfl (st_pick_t rfl rfl) ?_
             refine t_st rfl (st_pick_f rfl rfl) ?_
             refine t_mv rfl rfl ?_
             refine t_no 75 rfl rfl rfl rfl rfl ?_
             refine t_no 75 rfl rfl rfl rfl rfl ?_
             refine t_no 75 rfl rfl rfl rfl rfl ?_
             refine t_no 75 rfl rfl rfl rfl rfl ?_
             refine t_no 79 rfl rfl rfl rfl rfl ?_
             refine t_no 79 rfl rfl rfl rfl rfl ?_
             refine t_no 79 rfl rfl rfl rfl rfl ?_
             refine t_no 79 rfl rfl rfl rfl rfl ?_
             refine t_no 75 rfl rfl rfl rfl rfl ?_
             refine t_st rfl (st_pick_t rfl rfl) ?_
             refine t_as rfl rfl ?_
             refine t_nil ?_
             obtain rfl := some1 hm
             exact x_join (e' := [(1, .pointer (some ⟨g213, 0, none⟩)), (54, .bool (true))]) ⟨rfl, rfl, trivial⟩ (.refl _) ⟨rfl, rfl, (Base.Le.refl _)⟩
            ·
             rw [if_neg hc280] at hm
             refine t_yes 64 rfl rfl rfl ?_
             refine t_st rfl (st_pick_t rfl rfl) ?_
             refine t_st rfl (st_pick_f rfl rfl) ?_
             refine t_mv rfl rfl ?_
             refine t_yes 75 rfl rfl rfl ?_
             refine t_st rfl (st_field rfl fld59_0) ?_
             refine t_yes 75 rfl rfl rfl ?_
             refine t_st rfl (st_load 0 rfl one3 rfl rfl) ?_
             refine t_yes 75 rfl rfl rfl ?_
             refine t_bool rfl (st_lss rfl rfl) (fun hc281 => ?_) (fun hc281 => ?_)
             ·
              rw [if_pos hc281] at hm
              refine t_yes 75 rfl rfl rfl ?_
              refine t_mv rfl rfl ?_
              refine t_yes 79 rfl rfl rfl ?_
              refine t_st rfl (st_field rfl fld59_3) ?_
              refine t_yes 79 rfl rfl rfl ?_
              refine t_st rfl (st_load 0 rfl one57 rfl rfl) ?_
              refine t_yes 79 rfl rfl rfl ?_
              refine t_st rfl (st_len0 rfl sl57) ?_
              refine t_yes 79 rfl rfl rfl ?_
              refine t_st rfl (st_gtr rfl rfl) ?_
              refine t_yes 75 rfl rfl rfl ?_
              refine t_st rfl (st_pick_t rfl rfl) ?_
              refine t_st rfl (st_pick_f rfl rfl) ?_
              refine t_as rfl rfl ?_
              refine t_nil ?_
              obtain rfl := some1 hm
              exact x_join (e' := [(1, .pointer (some ⟨g213, 0, none⟩)), (54, .bool (decide ((0 : Int) < (0 : Int))))]) ⟨rfl, rfl, trivial⟩ (.refl _) ⟨rfl, rfl, (Base.Le.refl _)⟩
             ·
              rw [if_neg hc281] at hm
              refine t_yes 75 rfl rfl rfl ?_
              refine t_mv rfl rfl ?_
              refine t_no 79 rfl rfl rfl rfl rfl ?_
              refine t_no 79 rfl rfl rfl rfl rfl ?_
              refine t_no 79 rfl rfl rfl rfl rfl ?_
              refine t_no 79 rfl rfl rfl rfl rfl ?_
              refine t_yes 75 rfl rfl rfl ?_
              refine t_st rfl (st_pick_f rfl rfl) ?_
              refine t_st rfl (st_pick_f rfl rfl) ?_
              refine t_as rfl rfl ?_
              refine t_nil ?_
              obtain rfl := some1 hm
              exact x_join (e' := [(1, .pointer (some ⟨g213, 0, none⟩)), (54, .bool (false))]) ⟨rfl, rfl, trivial⟩ (.refl _) ⟨rfl, rfl, (Base.Le.refl _)⟩
           ·
            rw [if_neg hc279] at hm
            refine t_yes 64 rfl rfl rfl ?_
            refine t_mv rfl rfl ?_
            refine t_no 68 rfl rfl rfl rfl rfl ?_
            refine t_no 68 rfl rfl rfl rfl rfl ?_
            refine t_no 68 rfl rfl rfl rfl rfl ?_
            refine t_no 68 rfl rfl rfl rfl rfl ?_
            refine t_yes 64 rfl rfl rfl ?_
            refine t_st rfl (st_pick_f rfl rfl) ?_
            refine t_st rfl (st_pick_f rfl rfl) ?_
            refine t_mv rfl rfl ?_
            refine t_yes 75 rfl rfl rfl ?_
            refine t_st rfl (st_field rfl fld59_0) ?_
            refine t_yes 75 rfl rfl rfl ?_
            refine t_st rfl (st_load 0 rfl one3 rfl rfl) ?_
            refine t_yes 75 rfl rfl rfl ?_
            refine t_bool rfl (st_lss rfl rfl) (fun hc282 => ?_) (fun hc282 => ?_)
            ·
             rw [if_pos hc282] at hm
             refine t_yes 75 rfl rfl rfl ?_
             refine t_mv rfl rfl ?_
             refine t_yes 79 rfl rfl rfl ?_
             refine t_st rfl (st_field rfl fld59_3) ?_
             refine t_yes 79 rfl rfl rfl ?_
             refine t_st rfl (st_load 0 rfl one57 rfl rfl) ?_
             refine t_yes 79 rfl rfl rfl ?_
             refine t_st rfl (st_len0 rfl sl57) ?_
             refine t_yes 79 rfl rfl rfl ?_
             refine t_st rfl (st_gtr rfl rfl) ?_
             refine t_yes 75 rfl rfl rfl ?_
             refine t_st rfl (st_pick_t rfl rfl) ?_
             refine t_st rfl (st_pick_f rfl rfl) ?_
             refine t_as rfl rfl ?_
             refine t_nil ?_
             obtain rfl := some1 hm
             exact x_join (e' := [(1, .pointer (some ⟨g213, 0, none⟩)), (54, .bool (decide ((0 : Int) < (0 : Int))))]) ⟨rfl, rfl, trivial⟩ (.refl _) ⟨rfl, rfl, (Base.Le.refl _)⟩
            ·
             rw [if_neg hc282] at hm
             refine t_yes 75 rfl rfl rfl ?_
             refine t_mv rfl rfl ?_
             refine t_no 79 rfl rfl rfl rfl rfl ?_
             refine t_no 79 rfl rfl rfl rfl rfl ?_
             refine t_no 79 rfl rfl rfl rfl rfl ?_
             refine t_no 79 rfl rfl rfl rfl rfl ?_
             refine t_yes 75 rfl rfl rfl ?_
             refine t_st rfl (st_pick_f rfl rfl) ?_
             refine t_st rfl (st_pick_f rfl rfl) ?_
             refine t_as rfl rfl ?_
             refine t_nil ?_
             obtain rfl := some1 hm
             exact x_join (e' := [(1, .pointer (some ⟨g213, 0, none⟩)), (54, .bool (false))]) ⟨rfl, rfl, trivial⟩ (.refl _) ⟨rfl, rfl, (Base.Le.refl _)⟩
         ·
          rintro b269 _ _ ⟨rfl, rfl, hle270⟩
          have hm := hk272
          refine c_cond _ rfl (fun hc283 => ?_) (fun hc283 => ?_)
          ·
           rw [if_pos hc283] at hm
           refine c_sr ?_
           refine t_as rfl rfl ?_
           refine t_ne ?_
           refine c_ret ?_
           refine x_block_ret ?_
           refine x_then_ret ?_
           obtain rfl := some1 hm
           exact retM (rs := [.tmp 2]) [.int .i64 (1)] (hle225.trans (hle245.trans hle270)) (by decide) rfl ⟨rfl, trivial⟩ rfl (.cons _ (.refl _)) ⟨rfl, rfl⟩
          ·
           rw [if_neg (fun hh => Bool.noConfusion (hh.symm.trans hc283))] at hm
           refine c_skip ?_
           refine x_block_normal ?_
           refine x_then_normal ?_
           refine c_seq ?_
           refine c_sr ?_
           refine t_st rfl (st_field rfl fld59_3) ?_
           refine t_st rfl (st_load 0 rfl one57 rfl rfl) ?_
           refine t_st rfl (st_len0 rfl sl57) ?_
           refine t_mv rfl rfl ?_
           refine t_ne ?_
           refine c_block ?_
           obtain ⟨t302, hl303, hk304⟩ := bindS hm
           refine c_forM (fun k301 => fun _ => fun b299 e' hp' => [(87, .slice none 0 0), (88, .int .i64 (0)), (89, .int .i64 ((k301 : Int)))] = e' ∧ R = hp' ∧ b269.Le b299) hl303 (e' := [(87, .slice none 0 0), (88, .int .i64 (0)), (89, .int .i64 0)]) ⟨rfl, rfl, rfl, trivial⟩ (.cons _ (.refl _)) ⟨rfl, rfl, (Base.Le.refl _)⟩ ?_ ?_
           ·
            rintro k301 _ b299 _ _ oL284 hknL284 ⟨rfl, rfl, hle300⟩ hstepL284 houtL284
            unfold mFareCondNode_L284 at hstepL284
            have hm := hstepL284
            refine c_sr ?_
            refine t_st rfl (st_lss_t rfl rfl (by omega)) ?_
            refine t_ne ?_
            refine c_seq ?_
            refine c_cond_t rfl ?_
            refine c_skip ?_
            refine x_then_normal ?_
            refine c_seq ?_
            refine c_block ?_
            refine c_sr ?_
            obtain ⟨x305, h306, hm⟩ := bindS hm
            obtain ⟨j307, hj308, hx309⟩ := idx_some h306
            obtain ⟨cs310, hr311, hcs312, hA313, hlt314⟩ := FZ.get (sz := 4) rfl (by decide) (FZ.nil (r := rFareCond) (A := none)) hx309
            obtain ⟨_, _, rfl, rfl, ⟨_, _, rfl, rfl, ⟨_, _, rfl, rfl, rfl⟩⟩⟩ := hr311
            refine t_st rfl (st_index_old j307 rfl rfl hj308 hlt314 hA313 sl57) ?_
            refine t_st rfl (st_loadN_old (vs := [.int .i64 (x305.Kind), .int .i64 (x305.A), .int .i64 (x305.B), .slice none 0 0]) 4 rfl agg59 hA313 rfl (fun j u hu => hcs312 j u hu)) ?_
            refine t_do rfl (u_alloc [.int .i64 0, .int .i64 0, .int .i64 0, .slice none 0 0] zero59 rfl) ?_
            rintro _ _ ⟨g315, rfl, rfl⟩
            refine t_do rfl (u_storeN (vs := [_, _, _, _]) 0 4 rfl rfl rfl siz59 rfl (mem_c rfl (mem_c rfl (mem_c rfl (mem_c rfl mem_n)))) rfl (by simp)) ?_
            rintro _ _ rfl
            refine t_ne ?_
            refine c_sr ?_
            refine t_st rfl (st_loadD (vs := [_, _, _, _]) 0 4 rfl agg59 rfl rfl rfl) ?_
            obtain ⟨x316, hcl317, hm⟩ := bindS hm
            refine t_do rfl (u_callW0 _ call71 rfl (fun w ho => ih _ [] x305 x316 hcl317) (fun _ _ _ h => h.2.symm)) ?_
            rintro _ _ ⟨⟨_, rfl, _⟩, rfl⟩
            refine t_as rfl rfl ?_
            refine t_ne ?_
            refine c_sr ?_
            refine t_mv rfl rfl ?_
            refine t_st rfl (st_neq rfl rfl) ?_
            refine t_ne ?_
            refine c_cond _ rfl (fun hc318 => ?_) (fun hc318 => ?_)
            ·
             rw [if_pos (of_decide_eq_true hc318)] at hm
             refine c_sr ?_
             refine t_mv rfl rfl ?_
             refine t_as rfl rfl ?_
             refine t_ne ?_
             refine c_ret ?_
             refine x_block_ret ?_
             refine x_then_ret ?_
             refine x_then_ret ?_
             refine x_block_ret ?_
             refine x_then_ret ?_
             have hq319 := houtL284 _ (Option.some.inj hm).symm
             rw [hq319] at hk304
             have hm := elimR hk304
             obtain rfl := some1 hm
             exact retM (rs := [.tmp 2]) [.int .i64 (x316)] (hle225.trans (hle245.trans (hle270.trans hle300))) (by decide) rfl ⟨rfl, trivial⟩ rfl (.cons _ (.refl _)) ⟨rfl, rfl⟩
            ·
             rw [if_neg (of_decide_eq_false hc318)] at hm
             refine c_skip ?_
             refine x_block_normal ?_
             refine x_then_normal ?_
             refine c_region ?_
             refine t_st rfl (st_add rfl rfl (by omega)) ?_
             refine t_mv rfl rfl ?_
             refine t_nil ?_
             exact x_againM () (Option.some.inj hm).symm (e' := [(87, .slice none 0 0), (88, .int .i64 (0)), (89, .int .i64 ((k301 : Int) + 1))]) ⟨rfl, rfl, rfl, trivial⟩ (.cons _ (.refl _)) ⟨rfl, rfl, (hle300)⟩
           ·
            rintro _ b299 _ _ ⟨rfl, rfl, hle300⟩ hq320
            rw [hq320] at hk304
            have hm := elimL hk304
            refine c_sr ?_
            refine t_st rfl (st_lss_f rfl rfl (by omega)) ?_
            refine t_ne ?_
            refine c_seq ?_
            refine c_cond_f rfl ?_
            refine c_exit ?_
            refine x_then_exit ?_
            refine x_then_exit ?_
            refine x_block_out ?_
            refine x_then_normal ?_
            refine c_sr ?_
            refine t_as rfl rfl ?_
            refine t_ne ?_
            refine c_ret ?_
            obtain rfl := some1 hm
            exact retM (rs := [.tmp 2]) [.int .i64 (0)] (hle225.trans (hle245.trans (hle270.trans hle300))) (by decide) rfl ⟨rfl, trivial⟩ rfl (.refl _) ⟨rfl, rfl⟩

set_option maxRecDepth 20000 in
theorem cFareCondCheck (b : Base) (R : Hp) (s1 : FareCond) (x15 : Int) (hm : mFareCondCheck s1 = some x15) :
    CallsG Tryz.prog 49 [.agg #[.int .i64 (s1.Kind), .int .i64 (s1.A), .int .i64 (s1.B), .slice none 0 0]] b (R) (fun v b' hp' => .int .i64 (x15) = v ∧ R = hp') := by
  refine fn_enterG 18 Tryz.func49 rfl Tryz.ntmps49 rfl ?_
  unfold mFareCondCheck at hm
  refine c_sr ?_
  refine t_do rfl (u_box _ rfl rfl) ?_
  rintro _ _ ⟨g16, rfl, rfl⟩
  refine t_as rfl rfl ?_
  refine t_ne ?_
  refine c_seq ?_
  refine c_sr ?_
  refine t_st rfl (st_loadD (vs := [_, _, _, _]) 0 4 rfl agg59 rfl rfl rfl) ?_
  obtain ⟨⟨x17, x18⟩, hcl19, hm⟩ := bindS hm
  obtain ⟨Nhcl19, hcl19⟩ := lim_some hcl19
  have hm := (unc2E hm)
  refine t_do rfl (u_callW0 _ call70 rfl (fun w ho => cFareCondSize Nhcl19 _ [] s1 x17 x18 hcl19) (fun _ _ _ h => h.2.symm)) ?_
  rintro _ _ ⟨⟨_, rfl, _⟩, rfl⟩
  refine t_mv rfl rfl ?_
  refine t_st rfl (st_extract rfl rfl) ?_
  refine t_st rfl (st_extract rfl rfl) ?_
  refine t_as rfl rfl ?_
  refine t_as rfl rfl ?_
  refine t_ne ?_
  obtain ⟨x23, hj24, hk24⟩ := bindS hm
  refine c_join (fun b21 e' hp' => [(1, .pointer (some ⟨g16, 0, none⟩)), (15, .bool (x23))] = e' ∧ (g16, Cl 59 [.int .i64 (s1.Kind), .int .i64 (s1.A), .int .i64 (s1.B), .slice none 0 0]) :: R = hp' ∧ b.Le b21) ?_ ?_
  ·
   have hm := hj24
   refine c_region ?_
   refine t_mv rfl rfl ?_
   refine t_bool rfl (st_gtr rfl rfl) (fun hc25 => ?_) (fun hc25 => ?_)
   ·
    rw [if_pos hc25] at hm
    refine t_mv rfl rfl ?_
    refine t_no 12 rfl rfl rfl rfl rfl ?_
    refine t_no 12 rfl rfl rfl rfl rfl ?_
    refine t_st rfl (st_pick_t rfl rfl) ?_
    refine t_nil ?_
    obtain rfl := some1 hm
    exact x_join (e' := [(1, .pointer (some ⟨g16, 0, none⟩)), (15, .bool (true))]) ⟨rfl, rfl, trivial⟩ (.refl _) ⟨rfl, rfl, (Base.Le.refl _)⟩
   ·
    rw [if_neg hc25] at hm
    refine t_mv rfl rfl ?_
    refine t_yes 12 rfl rfl rfl ?_
    refine t_mv rfl rfl ?_
    refine t_yes 12 rfl rfl rfl ?_
    refine t_st rfl (st_gtr rfl rfl) ?_
    refine t_st rfl (st_pick_f rfl rfl) ?_
    refine t_nil ?_
    obtain rfl := some1 hm
    exact x_join (e' := [(1, .pointer (some ⟨g16, 0, none⟩)), (15, .bool (decide (6 < x18)))]) ⟨rfl, rfl, trivial⟩ (.refl _) ⟨rfl, rfl, (Base.Le.refl _)⟩
  ·
   rintro b21 _ _ ⟨rfl, rfl, hle22⟩
   have hm := hk24
   refine c_cond _ rfl (fun hc26 => ?_) (fun hc26 => ?_)
   ·
    rw [if_pos hc26] at hm
    refine c_sr ?_
    refine t_as rfl rfl ?_
    refine t_ne ?_
    refine c_ret ?_
    refine x_then_ret ?_
    obtain rfl := some1 hm
    exact retM (rs := [.tmp 2]) [.int .i64 (4)] hle22 (by decide) rfl ⟨rfl, trivial⟩ rfl (.cons _ (.refl _)) ⟨rfl, rfl⟩
   ·
    rw [if_neg (fun hh => Bool.noConfusion (hh.symm.trans hc26))] at hm
    refine c_skip ?_
    refine x_then_normal ?_
    refine c_sr ?_
    refine t_st rfl (st_loadD (vs := [_, _, _, _]) 0 4 rfl agg59 rfl rfl rfl) ?_
    obtain ⟨x27, hcl28, hm⟩ := bindS hm
    obtain ⟨Nhcl28, hcl28⟩ := lim_some hcl28
    refine t_do rfl (u_callW0 _ call71 rfl (fun w ho => cFareCondNode Nhcl28 _ [] s1 x27 hcl28) (fun _ _ _ h => h.2.symm)) ?_
    rintro _ _ ⟨⟨_, rfl, _⟩, rfl⟩
    refine t_as rfl rfl ?_
    refine t_ne ?_
    refine c_ret ?_
    obtain rfl := some1 hm
    exact retM (rs := [.tmp 2]) [.int .i64 (x27)] hle22 (by decide) rfl ⟨rfl, trivial⟩ rfl (.cons _ (.refl _)) ⟨rfl, rfl⟩

set_option maxRecDepth 20000 in
theorem cFareCheckTariff (b : Base) (R : Hp) (s1 : FareTariff) (A2 : Option Addr) (c3 : Nat) (A5 : Option Addr) (c6 : Nat) (h4 : FZ rFareBand b.w A2 c3 s1.Bands) (h7 : FZ rFareRule b.w A5 c6 s1.Rules) (x352 : Int) (hm : mFareCheckTariff s1 = some x352) :
    CallsG Tryz.prog 30 [.agg #[.bool (s1.ByKm), .slice A2 (s1.Bands).length c3, .int .i64 (s1.Round), .slice A5 (s1.Rules).length c6]] b (R) (fun v b' hp' => .int .i64 (x352) = v ∧ R = hp') := by
  refine fn_enterG 97 Tryz.func30 rfl Tryz.ntmps30 rfl ?_
  unfold mFareCheckTariff at hm
  refine c_sr ?_
  refine t_do rfl (u_box _ rfl rfl) ?_
  rintro _ _ ⟨g353, rfl, rfl⟩
  refine t_as rfl rfl ?_
  refine t_ne ?_
  refine c_seq ?_
  obtain ⟨x359, hj360, hk360⟩ := bindS hm
  refine c_join (fun b357 e' hp' => [(1, .pointer (some ⟨g353, 0, none⟩)), (19, .bool (x359))] = e' ∧ (g353, Cl 48 [.bool (s1.ByKm), .slice A2 (s1.Bands).length c3, .int .i64 (s1.Round), .slice A5 (s1.Rules).length c6]) :: R = hp' ∧ b.Le b357) ?_ ?_
  ·
   have hm := hj360
   refine c_region ?_
   refine t_st rfl (st_field rfl fld48_1) ?_
   refine t_st rfl (st_load 0 rfl one45 rfl rfl) ?_
   refine t_st rfl (st_len rfl sl45) ?_
   obtain ⟨x361, hcl362, hm⟩ := bindS hm
   refine t_do rfl (u_callW0 _ call16 rfl (fun w ho => cFareWithin _ [] (s1.Bands.length : Int) 1 8 x361 hcl362) (fun _ _ _ h => h.2.symm)) ?_
   rintro _ _ ⟨⟨_, rfl, _⟩, rfl⟩
   rcases Bool.eq_false_or_eq_true x361 with hc363 | hc363
   ·
    rw [if_pos hc363] at hm
    refine t_resp 12 rfl (v' := .bool true) (by rw [hc363] <;> rfl) ?_
    refine t_st rfl (st_not_t rfl) ?_
    refine t_mv rfl rfl ?_
    refine t_yes 14 rfl rfl rfl ?_
    refine t_st rfl (st_field rfl fld48_3) ?_
    refine t_yes 14 rfl rfl rfl ?_
    refine t_st rfl (st_load 0 rfl one46 rfl rfl) ?_
    refine t_yes 14 rfl rfl rfl ?_
    refine t_st rfl (st_len rfl sl46) ?_
    refine t_yes 14 rfl rfl rfl ?_
    refine t_st rfl (st_gtr rfl rfl) ?_
    refine t_st rfl (st_pick_f rfl rfl) ?_
    refine t_nil ?_
    obtain rfl := some1 hm
    exact x_join (e' := [(1, .pointer (some ⟨g353, 0, none⟩)), (19, .bool (decide (20 < (s1.Rules.length : Int))))]) ⟨rfl, rfl, trivial⟩ (.refl _) ⟨rfl, rfl, (Base.Le.refl _)⟩
   ·
    rw [if_neg (fun hh => Bool.noConfusion (hh.symm.trans hc363))] at hm
    refine t_resp 12 rfl (v' := .bool false) (by rw [hc363] <;> rfl) ?_
    refine t_st rfl (st_not_f rfl) ?_
    refine t_mv rfl rfl ?_
    refine t_no 14 rfl rfl rfl rfl rfl ?_
    refine t_no 14 rfl rfl rfl rfl rfl ?_
    refine t_no 14 rfl rfl rfl rfl rfl ?_
    refine t_no 14 rfl rfl rfl rfl rfl ?_
    refine t_st rfl (st_pick_t rfl rfl) ?_
    refine t_nil ?_
    obtain rfl := some1 hm
    exact x_join (e' := [(1, .pointer (some ⟨g353, 0, none⟩)), (19, .bool (true))]) ⟨rfl, rfl, trivial⟩ (.refl _) ⟨rfl, rfl, (Base.Le.refl _)⟩
  ·
   rintro b357 _ _ ⟨rfl, rfl, hle358⟩
   have hm := hk360
   refine c_cond _ rfl (fun hc364 => ?_) (fun hc364 => ?_)
   ·
    rw [if_pos hc364] at hm
    refine c_sr ?_
    refine t_as rfl rfl ?_
    refine t_ne ?_
    refine c_ret ?_
    refine x_then_ret ?_
    obtain rfl := some1 hm
    exact retM (rs := [.tmp 2]) [.int .i64 (4)] hle358 (by decide) rfl ⟨rfl, trivial⟩ rfl (.cons _ (.refl _)) ⟨rfl, rfl⟩
   ·
    rw [if_neg (fun hh => Bool.noConfusion (hh.symm.trans hc364))] at hm
    refine c_skip ?_
    refine x_then_normal ?_
    refine c_seq ?_
    refine c_sr ?_
    refine t_st rfl (st_field rfl fld48_1) ?_
    refine t_st rfl (st_load 0 rfl one45 rfl rfl) ?_
    refine t_st rfl (st_len rfl sl45) ?_
    refine t_mv rfl rfl ?_
    refine t_ne ?_
    refine c_block ?_
    have hb366 : s1.Bands.length ≤ 9223372036854775807 := (FZ.bd (h4.le hle358))
    obtain ⟨t497, hl498, hk499⟩ := bindS hm
    refine c_forM (fun k496 => fun _ => fun b494 e' hp' => [(1, .pointer (some ⟨g353, 0, none⟩)), (21, .slice A2 (s1.Bands).length c3), (22, .int .i64 ((s1.Bands.length : Int))), (23, .int .i64 ((k496 : Int)))] = e' ∧ (g353, Cl 48 [.bool (s1.ByKm), .slice A2 (s1.Bands).length c3, .int .i64 (s1.Round), .slice A5 (s1.Rules).length c6]) :: R = hp' ∧ b357.Le b494) hl498 (e' := [(1, .pointer (some ⟨g353, 0, none⟩)), (21, .slice A2 (s1.Bands).length c3), (22, .int .i64 ((s1.Bands.length : Int))), (23, .int .i64 0)]) ⟨rfl, rfl, rfl, rfl, trivial⟩ (.refl _) ⟨rfl, rfl, (Base.Le.refl _)⟩ ?_ ?_
    ·
     rintro k496 _ b494 _ _ oL365 hknL365 ⟨rfl, rfl, hle495⟩ hstepL365 houtL365
     unfold mFareCheckTariff_L365 at hstepL365
     have hm := hstepL365
     refine c_sr ?_
     refine t_st rfl (st_lss_t rfl rfl (by omega)) ?_
     refine t_ne ?_
     refine c_seq ?_
     refine c_cond_t rfl ?_
     refine c_skip ?_
     refine x_then_normal ?_
     refine c_seq ?_
     refine c_block ?_
     refine c_sr ?_
     refine t_mv rfl rfl ?_
     obtain ⟨x500, h501, hm⟩ := bindS hm
     obtain ⟨j502, hj503, hx504⟩ := idx_some h501
     obtain ⟨cs505, hr506, hcs507, hA508, hlt509⟩ := FZ.get (sz := 2) rfl (by decide) (h4.le (hle358.trans hle495)) hx504
     obtain ⟨_, _, rfl, rfl, rfl⟩ := hr506
     refine t_st rfl (st_index_old j502 rfl rfl hj503 hlt509 hA508 sl45) ?_
     refine t_st rfl (st_loadN_old (vs := [.int .i64 (x500.Upto), .int .i64 (x500.Price)]) 2 rfl agg56 hA508 rfl (fun j u hu => hcs507 j u hu)) ?_
     refine t_do rfl (u_alloc [.int .i64 0, .int .i64 0] zero56 rfl) ?_
     rintro _ _ ⟨g510, rfl, rfl⟩
     refine t_as rfl rfl ?_
     refine t_do rfl (u_storeN (vs := [_, _]) 0 2 rfl rfl rfl siz56 rfl (mem_c rfl (mem_c rfl mem_n)) rfl (by simp)) ?_
     rintro _ _ rfl
     refine t_ne ?_
     refine c_seq ?_
     obtain ⟨x518, hj519, hk519⟩ := bindS hm
     refine c_join (fun b516 e' hp' => [(1, .pointer (some ⟨g353, 0, none⟩)), (3, .int .i64 ((k496 : Int))), (4, .pointer (some ⟨g510, 0, none⟩)), (21, .slice A2 (s1.Bands).length c3), (22, .int .i64 ((s1.Bands.length : Int))), (23, .int .i64 ((k496 : Int))), (37, .bool (x518))] = e' ∧ (g353, Cl 48 [.bool (s1.ByKm), .slice A2 (s1.Bands).length c3, .int .i64 (s1.Round), .slice A5 (s1.Rules).length c6]) :: (g510, Cl 56 [.int .i64 (x500.Upto), .int .i64 (x500.Price)]) :: R = hp' ∧ b494.Le b516) ?_ ?_
     ·
      have hm := hj519
      refine c_region ?_
      refine t_st rfl (st_field rfl fld56_0) ?_
      refine t_st rfl (st_load 0 rfl one3 rfl rfl) ?_
      obtain ⟨x520, hcl521, hm⟩ := bindS hm
      refine t_do rfl (u_callW0 _ call16 rfl (fun w ho => cFareWithin _ [] x500.Upto 1 1000 x520 hcl521) (fun _ _ _ h => h.2.symm)) ?_
      rintro _ _ ⟨⟨_, rfl, _⟩, rfl⟩
      rcases Bool.eq_false_or_eq_true x520 with hc522 | hc522
      ·
       rw [if_pos hc522] at hm
       refine t_resp 30 rfl (v' := .bool true) (by rw [hc522] <;> rfl) ?_
       refine t_st rfl (st_not_t rfl) ?_
       refine t_mv rfl rfl ?_
       refine t_yes 32 rfl rfl rfl ?_
       refine t_st rfl (st_field rfl fld56_1) ?_
       refine t_yes 32 rfl rfl rfl ?_
       refine t_st rfl (st_load 0 rfl one3 rfl rfl) ?_
       refine t_yes 32 rfl rfl rfl ?_
       obtain ⟨x523, hcl524, hm⟩ := bindS hm
       refine t_do rfl (u_callW0 _ call16 rfl (fun w ho => cFareWithin _ [] x500.Price 0 100000 x523 hcl524) (fun _ _ _ h => h.2.symm)) ?_
       rintro _ _ ⟨⟨_, rfl, _⟩, rfl⟩
       refine t_yes 32 rfl rfl rfl ?_
       refine t_st rfl (st_not rfl) ?_
       refine t_st rfl (st_pick_f rfl rfl) ?_
       refine t_nil ?_
       obtain rfl := some1 hm
       refine x_pullb 1 rfl ?_
       exact x_join (e' := [(1, .pointer (some ⟨g353, 0, none⟩)), (3, .int .i64 ((k496 : Int))), (4, .pointer (some ⟨g510, 0, none⟩)), (21, .slice A2 (s1.Bands).length c3), (22, .int .i64 ((s1.Bands.length : Int))), (23, .int .i64 ((k496 : Int))), (37, .bool (!x523))]) ⟨rfl, rfl, rfl, rfl, rfl, rfl, rfl, trivial⟩ (.refl _) ⟨rfl, rfl, (Base.Le.refl _)⟩
      ·
       rw [if_neg (fun hh => Bool.noConfusion (hh.symm.trans hc522))] at hm
       refine t_resp 30 rfl (v' := .bool false) (by rw [hc522] <;> rfl) ?_
       refine t_st rfl (st_not_f rfl) ?_
       refine t_mv rfl rfl ?_
       refine t_no 32 rfl rfl rfl rfl rfl ?_
       refine t_no 32 rfl rfl rfl rfl rfl ?_
       refine t_no 32 rfl rfl rfl rfl rfl ?_
       refine t_no 32 rfl rfl rfl rfl rfl ?_
       refine t_st rfl (st_pick_t rfl rfl) ?_
       refine t_nil ?_
       obtain rfl := some1 hm
       refine x_pullb 1 rfl ?_
       exact x_join (e' := [(1, .pointer (some ⟨g353, 0, none⟩)), (3, .int .i64 ((k496 : Int))), (4, .pointer (some ⟨g510, 0, none⟩)), (21, .slice A2 (s1.Bands).length c3), (22, .int .i64 ((s1.Bands.length : Int))), (23, .int .i64 ((k496 : Int))), (37, .bool (true))]) ⟨rfl, rfl, rfl, rfl, rfl, rfl, rfl, trivial⟩ (.refl _) ⟨rfl, rfl, (Base.Le.refl _)⟩
     ·
      rintro b516 _ _ ⟨rfl, rfl, hle517⟩
      have hm := hk519
      refine c_cond _ rfl (fun hc525 => ?_) (fun hc525 => ?_)
      ·
       rw [if_pos hc525] at hm
       refine c_sr ?_
       refine t_as rfl rfl ?_
       refine t_ne ?_
       refine c_ret ?_
       refine x_then_ret ?_
       refine x_block_ret ?_
       refine x_then_ret ?_
       refine x_then_ret ?_
       refine x_block_ret ?_
       refine x_then_ret ?_
       have hq526 := houtL365 _ (Option.some.inj hm).symm
       rw [hq526] at hk499
       have hm := elimR hk499
       obtain rfl := some1 hm
       exact retM (rs := [.tmp 2]) [.int .i64 (2)] (hle358.trans (hle495.trans hle517)) (by decide) rfl ⟨rfl, trivial⟩ rfl (.cons _ (.cons _ (.refl _))) ⟨rfl, rfl⟩
      ·
       rw [if_neg (fun hh => Bool.noConfusion (hh.symm.trans hc525))] at hm
       refine c_skip ?_
       refine x_then_normal ?_
       obtain ⟨x577, hj578, hk578⟩ := bindS hm
       refine c_join (fun b575 e' hp' => [(1, .pointer (some ⟨g353, 0, none⟩)), (21, .slice A2 (s1.Bands).length c3), (22, .int .i64 ((s1.Bands.length : Int))), (23, .int .i64 ((k496 : Int))), (63, .bool (x577))] = e' ∧ (g353, Cl 48 [.bool (s1.ByKm), .slice A2 (s1.Bands).length c3, .int .i64 (s1.Round), .slice A5 (s1.Rules).length c6]) :: R = hp' ∧ b516.Le b575) ?_ ?_
       ·
        have hm := hj578
        by_cases hc603 : 0 < (k496 : Int)
        ·
         rw [if_pos hc603] at hm
         obtain ⟨_, h604, hm⟩ := bindS hm
         obtain ⟨x605, h606, hm⟩ := bindS hm
         by_cases hc615 : x500.Upto ≤ x605.Upto
         ·
          rw [if_pos hc615] at hm
          refine D_drawI mixed (.refl _) ?_
          refine E_s0 0 rfl (st_move rfl) ?_
          refine E_s0 1 rfl (st_gtr_t rfl rfl hc603) ?_
          refine E_s0 2 rfl (st_move rfl) ?_
          refine E_y0 3 40 rfl (st_field rfl fld56_0) ?_
          refine E_yes 4 40 rfl (st_load 1 rfl one3 rfl rfl) ?_
          refine E_y0 5 40 rfl (st_field rfl fld48_1) ?_
          refine E_yes 6 40 rfl (st_load 0 rfl one45 rfl rfl) ?_
          refine E_y0 7 40 rfl (st_move rfl) ?_
          have h604 := (chk_some h604).2
          refine E_y0 8 40 rfl (st_sub rfl rfl h604) ?_
          obtain ⟨j607, hj608, hx609⟩ := idx_some h606
          obtain ⟨cs610, hr611, hcs612, hA613, hlt614⟩ := FZ.get (sz := 2) rfl (by decide) (h4.le (hle358.trans (hle495.trans hle517))) hx609
          obtain ⟨_, _, rfl, rfl, rfl⟩ := hr611
          refine E_y0 9 40 rfl (st_index_old j607 rfl rfl hj608 hlt614 hA613 sl45) ?_
          refine E_y0 10 40 rfl (st_field_old rfl hA613 fld56_0) ?_
          refine E_yes 11 40 rfl (st_load_old rfl one3 (hcs612 0 _ rfl)) ?_
          refine E_y0 12 40 rfl (st_leq_t rfl rfl hc615) ?_
          refine E_y0 13 40 rfl (st_move rfl) ?_
          refine E_no 14 51 rfl rfl rfl ?_
          refine E_no 15 51 rfl rfl rfl ?_
          refine E_no 16 51 rfl rfl rfl ?_
          refine E_no 17 51 rfl rfl rfl ?_
          refine E_no 18 51 rfl rfl rfl ?_
          refine E_no 19 51 rfl rfl rfl ?_
          refine E_no 20 51 rfl rfl rfl ?_
          refine E_no 21 51 rfl rfl rfl ?_
          refine E_no 22 51 rfl rfl rfl ?_
          refine E_no 23 51 rfl rfl rfl ?_
          refine E_y0 24 40 rfl (st_pick_t rfl rfl) ?_
          refine E_s0 25 rfl (st_pick_t rfl rfl) ?_
          refine E_out ?_
          refine D_done (by kernel_rfl) ?_
          obtain rfl := some1 hm
          exact x_join (e' := [(1, .pointer (some ⟨g353, 0, none⟩)), (21, .slice A2 (s1.Bands).length c3), (22, .int .i64 ((s1.Bands.length : Int))), (23, .int .i64 ((k496 : Int))), (63, .bool (true))]) ⟨rfl, rfl, rfl, rfl, rfl, trivial⟩ (.cons_cons _ (.cons _ (.refl _))) ⟨rfl, rfl, (Base.Le.refl _)⟩
         ·
          rw [if_neg hc615] at hm
          obtain ⟨_, h616, hm⟩ := bindS hm
          obtain ⟨x617, h618, hm⟩ := bindS hm
          refine D_drawI mixed (.refl _) ?_
          refine E_s0 0 rfl (st_move rfl) ?_
          refine E_s0 1 rfl (st_gtr_t rfl rfl hc603) ?_
          refine E_s0 2 rfl (st_move rfl) ?_
          refine E_y0 3 40 rfl (st_field rfl fld56_0) ?_
          refine E_yes 4 40 rfl (st_load 1 rfl one3 rfl rfl) ?_
          refine E_y0 5 40 rfl (st_field rfl fld48_1) ?_
          refine E_yes 6 40 rfl (st_load 0 rfl one45 rfl rfl) ?_
          refine E_y0 7 40 rfl (st_move rfl) ?_
          have h604 := (chk_some h604).2
          refine E_y0 8 40 rfl (st_sub rfl rfl h604) ?_
          obtain ⟨j607, hj608, hx609⟩ := idx_some h606
          obtain ⟨cs610, hr611, hcs612, hA613, hlt614⟩ := FZ.get (sz := 2) rfl (by decide) (h4.le (hle358.trans (hle495.trans hle517))) hx609
          obtain ⟨_, _, rfl, rfl, rfl⟩ := hr611
          refine E_y0 9 40 rfl (st_index_old j607 rfl rfl hj608 hlt614 hA613 sl45) ?_
          refine E_y0 10 40 rfl (st_field_old rfl hA613 fld56_0) ?_
          refine E_yes 11 40 rfl (st_load_old rfl one3 (hcs612 0 _ rfl)) ?_
          refine E_y0 12 40 rfl (st_leq_f rfl rfl hc615) ?_
          refine E_y0 13 40 rfl (st_move rfl) ?_
          refine E_y0 14 51 rfl (st_field rfl fld56_1) ?_
          refine E_yes 15 51 rfl (st_load 1 rfl one3 rfl rfl) ?_
          refine E_y0 16 51 rfl (st_field rfl fld48_1) ?_
          refine E_yes 17 51 rfl (st_load 0 rfl one45 rfl rfl) ?_
          refine E_y0 18 51 rfl (st_move rfl) ?_
          have h616 := (chk_some h616).2
          refine E_y0 19 51 rfl (st_sub rfl rfl h616) ?_
          obtain ⟨j619, hj620, hx621⟩ := idx_some h618
          obtain ⟨cs622, hr623, hcs624, hA625, hlt626⟩ := FZ.get (sz := 2) rfl (by decide) (h4.le (hle358.trans (hle495.trans hle517))) hx621
          obtain ⟨_, _, rfl, rfl, rfl⟩ := hr623
          refine E_y0 20 51 rfl (st_index_old j619 rfl rfl hj620 hlt626 hA625 sl45) ?_
          refine E_y0 21 51 rfl (st_field_old rfl hA625 fld56_1) ?_
          refine E_yes 22 51 rfl (st_load_old rfl one3 (hcs624 1 _ rfl)) ?_
          refine E_y0 23 51 rfl (st_lss rfl rfl) ?_
          refine E_y0 24 40 rfl (st_pick_f rfl rfl) ?_
          refine E_s0 25 rfl (st_pick_t rfl rfl) ?_
          refine E_out ?_
          refine D_done (by kernel_rfl) ?_
          obtain rfl := some1 hm
          exact x_join (e' := [(1, .pointer (some ⟨g353, 0, none⟩)), (21, .slice A2 (s1.Bands).length c3), (22, .int .i64 ((s1.Bands.length : Int))), (23, .int .i64 ((k496 : Int))), (63, .bool (decide (x500.Price < x617.Price)))]) ⟨rfl, rfl, rfl, rfl, rfl, trivial⟩ (.cons_cons _ (.cons _ (.refl _))) ⟨rfl, rfl, (Base.Le.refl _)⟩
        ·
         rw [if_neg hc603] at hm
         refine D_drawI mixed (.refl _) ?_
         refine E_s0 0 rfl (st_move rfl) ?_
         refine E_s0 1 rfl (st_gtr_f rfl rfl hc603) ?_
         refine E_s0 2 rfl (st_move rfl) ?_
         refine E_no 3 40 rfl rfl rfl ?_
         refine E_no 4 40 rfl rfl rfl ?_
         refine E_no 5 40 rfl rfl rfl ?_
         refine E_no 6 40 rfl rfl rfl ?_
         refine E_no 7 40 rfl rfl rfl ?_
         refine E_no 8 40 rfl rfl rfl ?_
         refine E_no 9 40 rfl rfl rfl ?_
         refine E_no 10 40 rfl rfl rfl ?_
         refine E_no 11 40 rfl rfl rfl ?_
         refine E_no 12 40 rfl rfl rfl ?_
         refine E_no 13 40 rfl rfl rfl ?_
         refine E_no 14 51 rfl rfl rfl ?_
         refine E_no 15 51 rfl rfl rfl ?_
         refine E_no 16 51 rfl rfl rfl ?_
         refine E_no 17 51 rfl rfl rfl ?_
         refine E_no 18 51 rfl rfl rfl ?_
         refine E_no 19 51 rfl rfl rfl ?_
         refine E_no 20 51 rfl rfl rfl ?_
         refine E_no 21 51 rfl rfl rfl ?_
         refine E_no 22 51 rfl rfl rfl ?_
         refine E_no 23 51 rfl rfl rfl ?_
         refine E_no 24 40 rfl rfl rfl ?_
         refine E_s0 25 rfl (st_pick_f rfl rfl) ?_
         refine E_out ?_
         refine D_done (by kernel_rfl) ?_
         obtain rfl := some1 hm
         exact x_join (e' := [(1, .pointer (some ⟨g353, 0, none⟩)), (21, .slice A2 (s1.Bands).length c3), (22, .int .i64 ((s1.Bands.length : Int))), (23, .int .i64 ((k496 : Int))), (63, .bool (false))]) ⟨rfl, rfl, rfl, rfl, rfl, trivial⟩ (.cons_cons _ (.cons _ (.refl _))) ⟨rfl, rfl, (Base.Le.refl _)⟩
       ·
        rintro b575 _ _ ⟨rfl, rfl, hle576⟩
        have hm := hk578
        refine c_cond _ rfl (fun hc627 => ?_) (fun hc627 => ?_)
        ·
         rw [if_pos hc627] at hm
         refine c_sr ?_
         refine t_as rfl rfl ?_
         refine t_ne ?_
         refine c_ret ?_
         refine x_block_ret ?_
         refine x_then_ret ?_
         refine x_then_ret ?_
         refine x_block_ret ?_
         refine x_then_ret ?_
         have hq628 := houtL365 _ (Option.some.inj hm).symm
         rw [hq628] at hk499
         have hm := elimR hk499
         obtain rfl := some1 hm
         exact retM (rs := [.tmp 2]) [.int .i64 (1)] (hle358.trans (hle495.trans (hle517.trans hle576))) (by decide) rfl ⟨rfl, trivial⟩ rfl (.cons _ (.refl _)) ⟨rfl, rfl⟩
        ·
         rw [if_neg (fun hh => Bool.noConfusion (hh.symm.trans hc627))] at hm
         refine c_skip ?_
         refine x_block_normal ?_
         refine x_then_normal ?_
         refine c_region ?_
         refine t_st rfl (st_add rfl rfl (by omega)) ?_
         refine t_mv rfl rfl ?_
         refine t_nil ?_
         exact x_againM () (Option.some.inj hm).symm (e' := [(1, .pointer (some ⟨g353, 0, none⟩)), (21, .slice A2 (s1.Bands).length c3), (22, .int .i64 ((s1.Bands.length : Int))), (23, .int .i64 ((k496 : Int) + 1))]) ⟨rfl, rfl, rfl, rfl, trivial⟩ (.refl _) ⟨rfl, rfl, ((hle495.trans (hle517.trans hle576)))⟩
    ·
     rintro _ b494 _ _ ⟨rfl, rfl, hle495⟩ hq629
     rw [hq629] at hk499
     have hm := elimL hk499
     refine c_sr ?_
     refine t_st rfl (st_lss_f rfl rfl (by omega)) ?_
     refine t_ne ?_
     refine c_seq ?_
     refine c_cond_f rfl ?_
     refine c_exit ?_
     refine x_then_exit ?_
     refine x_then_exit ?_
     refine x_block_out ?_
     refine x_then_normal ?_
     refine c_seq ?_
     refine c_sr ?_
     refine t_st rfl (st_field rfl fld48_2) ?_
     refine t_st rfl (st_load 0 rfl one3 rfl rfl) ?_
     obtain ⟨x630, hcl631, hm⟩ := bindS hm
     refine t_do rfl (u_callW0 _ call16 rfl (fun w ho => cFareWithin _ [] s1.Round 1 100 x630 hcl631) (fun _ _ _ h => h.2.symm)) ?_
     rintro _ _ ⟨⟨_, rfl, _⟩, rfl⟩
     refine t_st rfl (st_not rfl) ?_
     refine t_ne ?_
     refine c_cond _ rfl (fun hc632 => ?_) (fun hc632 => ?_)
     ·
      rw [if_neg (fun hh => Bool.noConfusion (hh.symm.trans (notT hc632)))] at hm
      refine c_sr ?_
      refine t_as rfl rfl ?_
      refine t_ne ?_
      refine c_ret ?_
      refine x_then_ret ?_
      obtain rfl := some1 hm
      exact retM (rs := [.tmp 2]) [.int .i64 (2)] (hle358.trans hle495) (by decide) rfl ⟨rfl, trivial⟩ rfl (.cons _ (.refl _)) ⟨rfl, rfl⟩
     ·
      rw [if_pos (notF hc632)] at hm
      refine c_skip ?_
      refine x_then_normal ?_
      refine c_seq ?_
      refine c_sr ?_
      refine t_st rfl (st_field rfl fld48_3) ?_
      refine t_st rfl (st_load 0 rfl one46 rfl rfl) ?_
      refine t_st rfl (st_len rfl sl46) ?_
      refine t_mv rfl rfl ?_
      refine t_ne ?_
      refine c_block ?_
      have hb634 : s1.Rules.length ≤ 9223372036854775807 := (FZ.bd (h7.le (hle358.trans hle495)))
      obtain ⟨t664, hl665, hk666⟩ := bindS hm
      refine c_forM (fun k663 => fun _ => fun b661 e' hp' => [(70, .slice A5 (s1.Rules).length c6), (71, .int .i64 ((s1.Rules.length : Int))), (72, .int .i64 ((k663 : Int)))] = e' ∧ R = hp' ∧ b494.Le b661) hl665 (e' := [(70, .slice A5 (s1.Rules).length c6), (71, .int .i64 ((s1.Rules.length : Int))), (72, .int .i64 0)]) ⟨rfl, rfl, rfl, trivial⟩ (.cons _ (.refl _)) ⟨rfl, rfl, (Base.Le.refl _)⟩ ?_ ?_
      ·
       rintro k663 _ b661 _ _ oL633 hknL633 ⟨rfl, rfl, hle662⟩ hstepL633 houtL633
       unfold mFareCheckTariff_L633 at hstepL633
       have hm := hstepL633
       refine c_sr ?_
       refine t_st rfl (st_lss_t rfl rfl (by omega)) ?_
       refine t_ne ?_
       refine c_seq ?_
       refine c_cond_t rfl ?_
       refine c_skip ?_
       refine x_then_normal ?_
       refine c_seq ?_
       refine c_block ?_
       refine c_sr ?_
       obtain ⟨x667, h668, hm⟩ := bindS hm
       obtain ⟨j669, hj670, hx671⟩ := idx_some h668
       obtain ⟨cs672, hr673, hcs674, hA675, hlt676⟩ := FZ.get (sz := 7) rfl (by decide) (h7.le (hle358.trans (hle495.trans hle662))) hx671
       obtain ⟨_, _, rfl, ⟨_, _, rfl, rfl, ⟨_, _, rfl, rfl, ⟨_, _, rfl, rfl, rfl⟩⟩⟩, ⟨_, _, rfl, rfl, ⟨_, _, rfl, rfl, rfl⟩⟩⟩ := hr673
       refine t_st rfl (st_index_old j669 rfl rfl hj670 hlt676 hA675 sl46) ?_
       refine t_st rfl (st_loadN_old (vs := [.int .i64 (x667.If.Kind), .int .i64 (x667.If.A), .int .i64 (x667.If.B), .slice none 0 0, .int .i64 (x667.Do), .int .i64 (x667.N), .bool (x667.Stop)]) 7 rfl agg61 hA675 rfl (fun j u hu => hcs674 j u hu)) ?_
       refine t_do rfl (u_alloc [.int .i64 0, .int .i64 0, .int .i64 0, .slice none 0 0, .int .i64 0, .int .i64 0, .bool false] zero61 rfl) ?_
       rintro _ _ ⟨g677, rfl, rfl⟩
       refine t_do rfl (u_storeN (vs := [_, _, _, _, _, _, _]) 0 7 rfl rfl rfl siz61 rfl (mem_c rfl (mem_c rfl (mem_c rfl (mem_c rfl (mem_c rfl (mem_c rfl (mem_c rfl mem_n))))))) rfl (by simp)) ?_
       rintro _ _ rfl
       refine t_ne ?_
       refine c_seq ?_
       refine c_sr ?_
       refine t_st rfl (st_field rfl fld61_0) ?_
       refine t_st rfl (st_loadD (vs := [_, _, _, _]) 0 4 rfl agg59 rfl rfl rfl) ?_
       obtain ⟨x678, hcl679, hm⟩ := bindS hm
       refine t_do rfl (u_callW0 _ call49 rfl (fun w ho => cFareCondCheck _ [] x667.If x678 hcl679) (fun _ _ _ h => h.2.symm)) ?_
       rintro _ _ ⟨⟨_, rfl, _⟩, rfl⟩
       refine t_as rfl rfl ?_
       refine t_ne ?_
       refine c_sr ?_
       refine t_mv rfl rfl ?_
       refine t_st rfl (st_neq rfl rfl) ?_
       refine t_ne ?_
       refine c_cond _ rfl (fun hc680 => ?_) (fun hc680 => ?_)
       ·
        rw [if_pos (of_decide_eq_true hc680)] at hm
        refine c_sr ?_
        refine t_mv rfl rfl ?_
        refine t_as rfl rfl ?_
        refine t_ne ?_
        refine c_ret ?_
        refine x_then_ret ?_
        refine x_block_ret ?_
        refine x_then_ret ?_
        refine x_then_ret ?_
        refine x_block_ret ?_
        refine x_then_ret ?_
        have hq681 := houtL633 _ (Option.some.inj hm).symm
        rw [hq681] at hk666
        have hm := elimR hk666
        obtain rfl := some1 hm
        exact retM (rs := [.tmp 2]) [.int .i64 (x678)] (hle358.trans (hle495.trans hle662)) (by decide) rfl ⟨rfl, trivial⟩ rfl (.cons _ (.refl _)) ⟨rfl, rfl⟩
       ·
        rw [if_neg (of_decide_eq_false hc680)] at hm
        refine c_skip ?_
        refine x_then_normal ?_
        refine c_sr ?_
        refine t_as rfl rfl ?_
        refine t_ne ?_
        obtain ⟨x685, hj686, hk686⟩ := bindS hm
        refine c_join (fun b683 e' hp' => [(6, .pointer (some ⟨g677, 0, none⟩)), (8, .int .i64 (x685)), (70, .slice A5 (s1.Rules).length c6), (71, .int .i64 ((s1.Rules.length : Int))), (72, .int .i64 ((k663 : Int)))] = e' ∧ (g677, Cl 61 [.int .i64 (x667.If.Kind), .int .i64 (x667.If.A), .int .i64 (x667.If.B), .slice none 0 0, .int .i64 (x667.Do), .int .i64 (x667.N), .bool (x667.Stop)]) :: R = hp' ∧ b661.Le b683) ?_ ?_
        ·
         have hm := hj686
         refine c_sr ?_
         refine t_st rfl (st_field rfl fld61_1) ?_
         refine t_st rfl (st_load 0 rfl one3 rfl rfl) ?_
         refine t_st rfl (st_eql rfl rfl) ?_
         refine t_ne ?_
         refine c_cond _ rfl (fun hc687 => ?_) (fun hc687 => ?_)
         ·
          rw [if_pos (of_decide_eq_true hc687)] at hm
          refine c_region ?_
          refine t_as rfl rfl ?_
          refine t_nil ?_
          obtain rfl := some1 hm
          exact x_join (e' := [(6, .pointer (some ⟨g677, 0, none⟩)), (8, .int .i64 (200)), (70, .slice A5 (s1.Rules).length c6), (71, .int .i64 ((s1.Rules.length : Int))), (72, .int .i64 ((k663 : Int)))]) ⟨rfl, rfl, rfl, rfl, rfl, trivial⟩ (.refl _) ⟨rfl, rfl, (Base.Le.refl _)⟩
         ·
          rw [if_neg (of_decide_eq_false hc687)] at hm
          refine c_skip ?_
          obtain rfl := some1 hm
          exact x_join (e' := [(6, .pointer (some ⟨g677, 0, none⟩)), (8, .int .i64 (100000)), (70, .slice A5 (s1.Rules).length c6), (71, .int .i64 ((s1.Rules.length : Int))), (72, .int .i64 ((k663 : Int)))]) ⟨rfl, rfl, rfl, rfl, rfl, trivial⟩ (.refl _) ⟨rfl, rfl, (Base.Le.refl _)⟩
        ·
         rintro b683 _ _ ⟨rfl, rfl, hle684⟩
         have hm := hk686
         refine c_block ?_
         refine c_sr ?_
         refine t_st rfl (st_field rfl fld61_1) ?_
         refine t_st rfl (st_load 0 rfl one3 rfl rfl) ?_
         obtain ⟨x688, hcl689, hm⟩ := bindS hm
         refine t_do rfl (u_callW0 _ call16 rfl (fun w ho => cFareWithin _ [] x667.Do 1 6 x688 hcl689) (fun _ _ _ h => h.2.symm)) ?_
         rintro _ _ ⟨⟨_, rfl, _⟩, rfl⟩
         refine t_st rfl (st_not rfl) ?_
         refine t_as rfl rfl ?_
         refine t_ne ?_
         refine c_cond _ rfl (fun hc690 => ?_) (fun hc690 => ?_)
         ·
          rw [if_neg (fun hh => Bool.noConfusion (hh.symm.trans (notT hc690)))] at hm
          refine c_sr ?_
          refine t_as rfl rfl ?_
          refine t_ne ?_
          refine c_ret ?_
          refine x_block_ret ?_
          refine x_block_ret ?_
          refine x_then_ret ?_
          refine x_then_ret ?_
          refine x_block_ret ?_
          refine x_then_ret ?_
          have hq691 := houtL633 _ (Option.some.inj hm).symm
          rw [hq691] at hk666
          have hm := elimR hk666
          obtain rfl := some1 hm
          exact retM (rs := [.tmp 2]) [.int .i64 (15)] (hle358.trans (hle495.trans (hle662.trans hle684))) (by decide) rfl ⟨rfl, trivial⟩ rfl (.cons _ (.refl _)) ⟨rfl, rfl⟩
         ·
          rw [if_pos (notF hc690)] at hm
          refine c_sr ?_
          refine t_st rfl (st_field rfl fld61_2) ?_
          refine t_st rfl (st_load 0 rfl one3 rfl rfl) ?_
          refine t_mv rfl rfl ?_
          obtain ⟨x692, hcl693, hm⟩ := bindS hm
          refine t_do rfl (u_callW0 _ call16 rfl (fun w ho => cFareWithin _ [] x667.N 0 x685 x692 hcl693) (fun _ _ _ h => h.2.symm)) ?_
          rintro _ _ ⟨⟨_, rfl, _⟩, rfl⟩
          refine t_st rfl (st_not rfl) ?_
          refine t_as rfl rfl ?_
          refine t_ne ?_
          refine c_cond _ rfl (fun hc694 => ?_) (fun hc694 => ?_)
          ·
           rw [if_neg (fun hh => Bool.noConfusion (hh.symm.trans (notT hc694)))] at hm
           refine c_sr ?_
           refine t_as rfl rfl ?_
           refine t_ne ?_
           refine c_ret ?_
           refine x_block_ret ?_
           refine x_block_ret ?_
           refine x_then_ret ?_
           refine x_then_ret ?_
           refine x_block_ret ?_
           refine x_then_ret ?_
           have hq695 := houtL633 _ (Option.some.inj hm).symm
           rw [hq695] at hk666
           have hm := elimR hk666
           obtain rfl := some1 hm
           exact retM (rs := [.tmp 2]) [.int .i64 (2)] (hle358.trans (hle495.trans (hle662.trans hle684))) (by decide) rfl ⟨rfl, trivial⟩ rfl (.cons _ (.refl _)) ⟨rfl, rfl⟩
          ·
           rw [if_pos (notF hc694)] at hm
           refine c_skip ?_
           refine x_block_normal ?_
           refine x_block_normal ?_
           refine x_then_normal ?_
           refine c_region ?_
           refine t_st rfl (st_add rfl rfl (by omega)) ?_
           refine t_mv rfl rfl ?_
           refine t_nil ?_
           exact x_againM () (Option.some.inj hm).symm (e' := [(70, .slice A5 (s1.Rules).length c6), (71, .int .i64 ((s1.Rules.length : Int))), (72, .int .i64 ((k663 : Int) + 1))]) ⟨rfl, rfl, rfl, trivial⟩ (.cons _ (.refl _)) ⟨rfl, rfl, ((hle662.trans hle684))⟩
      ·
       rintro _ b661 _ _ ⟨rfl, rfl, hle662⟩ hq696
       rw [hq696] at hk666
       have hm := elimL hk666
       refine c_sr ?_
       refine t_st rfl (st_lss_f rfl rfl (by omega)) ?_
       refine t_ne ?_
       refine c_seq ?_
       refine c_cond_f rfl ?_
       refine c_exit ?_
       refine x_then_exit ?_
       refine x_then_exit ?_
       refine x_block_out ?_
       refine x_then_normal ?_
       refine c_sr ?_
       refine t_as rfl rfl ?_
       refine t_ne ?_
       refine c_ret ?_
       obtain rfl := some1 hm
       exact retM (rs := [.tmp 2]) [.int .i64 (0)] (hle358.trans (hle495.trans hle662)) (by decide) rfl ⟨rfl, trivial⟩ rfl (.refl _) ⟨rfl, rfl⟩

set_option maxRecDepth 20000 in
theorem cFareCheckZones (b : Base) (R : Hp) (l4 : (List Int)) (x5 : Bool) (A1 : Option Addr) (c2 : Nat) (h3 : FZ (RT.int .i64) b.w A1 c2 l4) (x153 : Int) (hm : mFareCheckZones l4 x5 = some x153) :
    CallsG Tryz.prog 50 [.slice A1 (l4).length c2, .bool (x5)] b (R) (fun v b' hp' => .int .i64 (x153) = v ∧ R = hp') := by
  refine fn_enterG 41 Tryz.func50 rfl Tryz.ntmps50 rfl ?_
  unfold mFareCheckZones at hm
  refine c_sr ?_
  refine t_as rfl rfl ?_
  refine t_ne ?_
  refine c_seq ?_
  refine c_sr ?_
  refine t_mv rfl rfl ?_
  refine t_st rfl (st_len rfl sl22) ?_
  refine t_mv rfl rfl ?_
  refine t_ne ?_
  refine c_block ?_
  have hb155 : l4.length ≤ 9223372036854775807 := (FZ.bd h3)
  obtain ⟨t227, hl228, hk229⟩ := bindS hm
  refine c_forM (fun k226 => fun _ => fun b224 e' hp' => [(0, .slice A1 (l4).length c2), (1, .bool (x5)), (7, .slice A1 (l4).length c2), (8, .int .i64 ((l4.length : Int))), (9, .int .i64 ((k226 : Int)))] = e' ∧ R = hp' ∧ b.Le b224) hl228 (e' := [(0, .slice A1 (l4).length c2), (1, .bool (x5)), (7, .slice A1 (l4).length c2), (8, .int .i64 ((l4.length : Int))), (9, .int .i64 0)]) ⟨rfl, rfl, rfl, rfl, rfl, trivial⟩ (.refl _) ⟨rfl, rfl, (Base.Le.refl _)⟩ ?_ ?_
  ·
   rintro k226 _ b224 _ _ oL154 hknL154 ⟨rfl, rfl, hle225⟩ hstepL154 houtL154
   unfold mFareCheckZones_L154 at hstepL154
   have hm := hstepL154
   refine c_sr ?_
   refine t_st rfl (st_lss_t rfl rfl (by omega)) ?_
   refine t_ne ?_
   refine c_seq ?_
   refine c_cond_t rfl ?_
   refine c_skip ?_
   refine x_then_normal ?_
   refine c_seq ?_
   refine c_block ?_
   refine c_sr ?_
   refine t_mv rfl rfl ?_
   obtain ⟨x230, h231, hm⟩ := bindS hm
   obtain ⟨j232, hj233, hx234⟩ := idx_some h231
   obtain ⟨cs235, hr236, hcs237, hA238, hlt239⟩ := FZ.get (sz := 1) rfl (by decide) (h3.le hle225) hx234
   obtain rfl := hr236
   refine t_st rfl (st_index_old j232 rfl rfl hj233 hlt239 hA238 sl22) ?_
   refine t_st rfl (st_load_old rfl one3 (hcs237 0 _ rfl)) ?_
   refine t_as rfl rfl ?_
   refine t_as rfl rfl ?_
   refine t_ne ?_
   refine c_seq ?_
   refine c_sr ?_
   refine t_mv rfl rfl ?_
   obtain ⟨x240, hcl241, hm⟩ := bindS hm
   refine t_do rfl (u_callW0 _ call16 rfl (fun w ho => cFareWithin _ [] x230 0 19 x240 hcl241) (fun _ _ _ h => h.2.symm)) ?_
   rintro _ _ ⟨⟨_, rfl, _⟩, rfl⟩
   refine t_st rfl (st_not rfl) ?_
   refine t_ne ?_
   refine c_cond _ rfl (fun hc242 => ?_) (fun hc242 => ?_)
   ·
    rw [if_neg (fun hh => Bool.noConfusion (hh.symm.trans (notT hc242)))] at hm
    refine c_sr ?_
    refine t_as rfl rfl ?_
    refine t_ne ?_
    refine c_ret ?_
    refine x_then_ret ?_
    refine x_block_ret ?_
    refine x_then_ret ?_
    refine x_then_ret ?_
    refine x_block_ret ?_
    refine x_then_ret ?_
    have hq243 := houtL154 _ (Option.some.inj hm).symm
    rw [hq243] at hk229
    have hm := elimR hk229
    obtain rfl := some1 hm
    exact retM (rs := [.tmp 4]) [.int .i64 (2)] hle225 (by decide) rfl ⟨rfl, trivial⟩ rfl (.refl _) ⟨rfl, rfl⟩
   ·
    rw [if_pos (notF hc242)] at hm
    refine c_skip ?_
    refine x_then_normal ?_
    obtain ⟨x271, hj272, hk272⟩ := bindS hm
    refine c_join (fun b269 e' hp' => [(0, .slice A1 (l4).length c2), (1, .bool (x5)), (7, .slice A1 (l4).length c2), (8, .int .i64 ((l4.length : Int))), (9, .int .i64 ((k226 : Int))), (39, .bool (x271))] = e' ∧ R = hp' ∧ b224.Le b269) ?_ ?_
    ·
     have hm := hj272
     refine c_region ?_
     refine t_mv rfl rfl ?_
     refine t_bool rfl (st_gtr rfl rfl) (fun hc273 => ?_) (fun hc273 => ?_)
     ·
      rw [if_pos hc273] at hm
      refine t_mv rfl rfl ?_
      refine t_yes 19 rfl rfl rfl ?_
      refine t_mv rfl rfl ?_
      refine t_yes 19 rfl rfl rfl ?_
      refine t_mv rfl rfl ?_
      refine t_yes 19 rfl rfl rfl ?_
      refine t_mv rfl rfl ?_
      refine t_yes 19 rfl rfl rfl ?_
      obtain ⟨_, h274, hm⟩ := bindS hm
      have h274 := (chk_some h274).2
      refine t_st rfl (st_sub rfl rfl h274) ?_
      refine t_yes 19 rfl rfl rfl ?_
      obtain ⟨x275, h276, hm⟩ := bindS hm
      obtain ⟨j277, hj278, hx279⟩ := idx_some h276
      obtain ⟨cs280, hr281, hcs282, hA283, hlt284⟩ := FZ.get (sz := 1) rfl (by decide) (h3.le hle225) hx279
      obtain rfl := hr281
      refine t_st rfl (st_index_old j277 rfl rfl hj278 hlt284 hA283 sl22) ?_
      refine t_yes 19 rfl rfl rfl ?_
      refine t_st rfl (st_load_old rfl one3 (hcs282 0 _ rfl)) ?_
      refine t_yes 19 rfl rfl rfl ?_
      refine t_bool rfl (st_eql rfl rfl) (fun hc285 => ?_) (fun hc285 => ?_)
      ·
       rw [if_pos hc285] at hm
       refine t_yes 19 rfl rfl rfl ?_
       refine t_mv rfl rfl ?_
       refine t_no 27 rfl rfl rfl rfl rfl ?_
       refine t_no 27 rfl rfl rfl rfl rfl ?_
       refine t_no 29 rfl rfl rfl rfl rfl ?_
       refine t_no 29 rfl rfl rfl rfl rfl ?_
       refine t_no 29 rfl rfl rfl rfl rfl ?_
       refine t_no 29 rfl rfl rfl rfl rfl ?_
       refine t_no 29 rfl rfl rfl rfl rfl ?_
       refine t_no 29 rfl rfl rfl rfl rfl ?_
       refine t_no 29 rfl rfl rfl rfl rfl ?_
       refine t_no 27 rfl rfl rfl rfl rfl ?_
       refine t_yes 19 rfl rfl rfl ?_
       refine t_st rfl (st_pick_t rfl rfl) ?_
       refine t_st rfl (st_pick_t rfl rfl) ?_
       refine t_nil ?_
       obtain rfl := some1 hm
       exact x_join (e' := [(0, .slice A1 (l4).length c2), (1, .bool (x5)), (7, .slice A1 (l4).length c2), (8, .int .i64 ((l4.length : Int))), (9, .int .i64 ((k226 : Int))), (39, .bool (true))]) ⟨rfl, rfl, rfl, rfl, rfl, rfl, trivial⟩ (.refl _) ⟨rfl, rfl, (Base.Le.refl _)⟩
      ·
       rw [if_neg hc285] at hm
       refine t_yes 19 rfl rfl rfl ?_
       refine t_mv rfl rfl ?_
       refine t_yes 27 rfl rfl rfl ?_
       refine t_mv rfl rfl ?_
       rcases Bool.eq_false_or_eq_true x5 with hc286 | hc286
       ·
        rw [if_pos hc286] at hm
        refine t_resp 28 rfl (v' := .bool true) (by rw [hc286] <;> rfl) ?_
        refine t_yes 27 rfl rfl rfl ?_
        refine t_mv rfl rfl ?_
        refine t_yes 29 rfl rfl rfl ?_
        refine t_mv rfl rfl ?_
        refine t_yes 29 rfl rfl rfl ?_
        refine t_mv rfl rfl ?_
        refine t_yes 29 rfl rfl rfl ?_
        refine t_mv rfl rfl ?_
        refine t_yes 29 rfl rfl rfl ?_
        obtain ⟨_, h287, hm⟩ := bindS hm
        have h287 := (chk_some h287).2
        refine t_st rfl (st_sub rfl rfl h287) ?_
        refine t_yes 29 rfl rfl rfl ?_
        obtain ⟨x288, h289, hm⟩ := bindS hm
        obtain ⟨j290, hj291, hx292⟩ := idx_some h289
        obtain ⟨cs293, hr294, hcs295, hA296, hlt297⟩ := FZ.get (sz := 1) rfl (by decide) (h3.le hle225) hx292
        obtain rfl := hr294
        refine t_st rfl (st_index_old j290 rfl rfl hj291 hlt297 hA296 sl22) ?_
        refine t_yes 29 rfl rfl rfl ?_
        refine t_st rfl (st_load_old rfl one3 (hcs295 0 _ rfl)) ?_
        refine t_yes 29 rfl rfl rfl ?_
        refine t_st rfl (st_lss rfl rfl) ?_
        refine t_yes 27 rfl rfl rfl ?_
        refine t_st rfl (st_pick_t rfl rfl) ?_
        refine t_yes 19 rfl rfl rfl ?_
        refine t_st rfl (st_pick_f rfl rfl) ?_
        refine t_st rfl (st_pick_t rfl rfl) ?_
        refine t_nil ?_
        obtain rfl := some1 hm
        exact x_join (e' := [(0, .slice A1 (l4).length c2), (1, .bool (x5)), (7, .slice A1 (l4).length c2), (8, .int .i64 ((l4.length : Int))), (9, .int .i64 ((k226 : Int))), (39, .bool (decide (x230 < x288)))]) ⟨rfl, rfl, rfl, rfl, rfl, rfl, trivial⟩ (.refl _) ⟨rfl, rfl, (Base.Le.refl _)⟩
       ·
        rw [if_neg (fun hh => Bool.noConfusion (hh.symm.trans hc286))] at hm
        refine t_resp 28 rfl (v' := .bool false) (by rw [hc286] <;> rfl) ?_
        refine t_yes 27 rfl rfl rfl ?_
        refine t_mv rfl rfl ?_
        refine t_no 29 rfl rfl rfl rfl rfl ?_
        refine t_no 29 rfl rfl rfl rfl rfl ?_
        refine t_no 29 rfl rfl rfl rfl rfl ?_
        refine t_no 29 rfl rfl rfl rfl rfl ?_
        refine t_no 29 rfl rfl rfl rfl rfl ?_
        refine t_no 29 rfl rfl rfl rfl rfl ?_
        refine t_no 29 rfl rfl rfl rfl rfl ?_
        refine t_yes 27 rfl rfl rfl ?_
        refine t_st rfl (st_pick_f rfl rfl) ?_
        refine t_yes 19 rfl rfl rfl ?_
        refine t_st rfl (st_pick_f rfl rfl) ?_
        refine t_st rfl (st_pick_t rfl rfl) ?_
        refine t_nil ?_
        obtain rfl := some1 hm
        exact x_join (e' := [(0, .slice A1 (l4).length c2), (1, .bool (x5)), (7, .slice A1 (l4).length c2), (8, .int .i64 ((l4.length : Int))), (9, .int .i64 ((k226 : Int))), (39, .bool (false))]) ⟨rfl, rfl, rfl, rfl, rfl, rfl, trivial⟩ (.refl _) ⟨rfl, rfl, (Base.Le.refl _)⟩
     ·
      rw [if_neg hc273] at hm
      refine t_mv rfl rfl ?_
      refine t_no 19 rfl rfl rfl rfl rfl ?_
      refine t_no 19 rfl rfl rfl rfl rfl ?_
      refine t_no 19 rfl rfl rfl rfl rfl ?_
      refine t_no 19 rfl rfl rfl rfl rfl ?_
      refine t_no 19 rfl rfl rfl rfl rfl ?_
      refine t_no 19 rfl rfl rfl rfl rfl ?_
      refine t_no 19 rfl rfl rfl rfl rfl ?_
      refine t_no 19 rfl rfl rfl rfl rfl ?_
      refine t_no 27 rfl rfl rfl rfl rfl ?_
      refine t_no 27 rfl rfl rfl rfl rfl ?_
      refine t_no 29 rfl rfl rfl rfl rfl ?_
      refine t_no 29 rfl rfl rfl rfl rfl ?_
      refine t_no 29 rfl rfl rfl rfl rfl ?_
      refine t_no 29 rfl rfl rfl rfl rfl ?_
      refine t_no 29 rfl rfl rfl rfl rfl ?_
      refine t_no 29 rfl rfl rfl rfl rfl ?_
      refine t_no 29 rfl rfl rfl rfl rfl ?_
      refine t_no 27 rfl rfl rfl rfl rfl ?_
      refine t_no 19 rfl rfl rfl rfl rfl ?_
      refine t_st rfl (st_pick_f rfl rfl) ?_
      refine t_nil ?_
      obtain rfl := some1 hm
      exact x_join (e' := [(0, .slice A1 (l4).length c2), (1, .bool (x5)), (7, .slice A1 (l4).length c2), (8, .int .i64 ((l4.length : Int))), (9, .int .i64 ((k226 : Int))), (39, .bool (false))]) ⟨rfl, rfl, rfl, rfl, rfl, rfl, trivial⟩ (.refl _) ⟨rfl, rfl, (Base.Le.refl _)⟩
    ·
     rintro b269 _ _ ⟨rfl, rfl, hle270⟩
     have hm := hk272
     refine c_cond _ rfl (fun hc298 => ?_) (fun hc298 => ?_)
     ·
      rw [if_pos hc298] at hm
      refine c_sr ?_
      refine t_as rfl rfl ?_
      refine t_ne ?_
      refine c_ret ?_
      refine x_block_ret ?_
      refine x_then_ret ?_
      refine x_then_ret ?_
      refine x_block_ret ?_
      refine x_then_ret ?_
      have hq299 := houtL154 _ (Option.some.inj hm).symm
      rw [hq299] at hk229
      have hm := elimR hk229
      obtain rfl := some1 hm
      exact retM (rs := [.tmp 4]) [.int .i64 (1)] (hle225.trans hle270) (by decide) rfl ⟨rfl, trivial⟩ rfl (.refl _) ⟨rfl, rfl⟩
     ·
      rw [if_neg (fun hh => Bool.noConfusion (hh.symm.trans hc298))] at hm
      refine c_skip ?_
      refine x_block_normal ?_
      refine x_then_normal ?_
      refine c_region ?_
      refine t_st rfl (st_add rfl rfl (by omega)) ?_
      refine t_mv rfl rfl ?_
      refine t_nil ?_
      exact x_againM () (Option.some.inj hm).symm (e' := [(0, .slice A1 (l4).length c2), (1, .bool (x5)), (7, .slice A1 (l4).length c2), (8, .int .i64 ((l4.length : Int))), (9, .int .i64 ((k226 : Int) + 1))]) ⟨rfl, rfl, rfl, rfl, rfl, trivial⟩ (.refl _) ⟨rfl, rfl, ((hle225.trans hle270))⟩
  ·
   rintro _ b224 _ _ ⟨rfl, rfl, hle225⟩ hq300
   rw [hq300] at hk229
   have hm := elimL hk229
   refine c_sr ?_
   refine t_st rfl (st_lss_f rfl rfl (by omega)) ?_
   refine t_ne ?_
   refine c_seq ?_
   refine c_cond_f rfl ?_
   refine c_exit ?_
   refine x_then_exit ?_
   refine x_then_exit ?_
   refine x_block_out ?_
   refine x_then_normal ?_
   refine c_sr ?_
   refine t_as rfl rfl ?_
   refine t_ne ?_
   refine c_ret ?_
   obtain rfl := some1 hm
   exact retM (rs := [.tmp 4]) [.int .i64 (0)] hle225 (by decide) rfl ⟨rfl, trivial⟩ rfl (.refl _) ⟨rfl, rfl⟩

set_option maxRecDepth 20000 in
theorem cFareCheckTrip (b : Base) (R : Hp) (s1 : FareTrip) (A2 : Option Addr) (c3 : Nat) (h4 : FZ (RT.int .i64) b.w A2 c3 s1.Zones) (x38 : Int) (hm : mFareCheckTrip s1 = some x38) :
    CallsG Tryz.prog 31 [.agg #[.int .i64 (s1.Day), .int .i64 (s1.At), .int .i64 (s1.Km), .int .i64 (s1.Age), .bool (s1.Card), .slice A2 (s1.Zones).length c3]] b (R) (fun v b' hp' => .int .i64 (x38) = v ∧ R = hp') := by
  refine fn_enterG 35 Tryz.func31 rfl Tryz.ntmps31 rfl ?_
  unfold mFareCheckTrip at hm
  refine c_sr ?_
  refine t_do rfl (u_box _ rfl rfl) ?_
  rintro _ _ ⟨g39, rfl, rfl⟩
  refine t_as rfl rfl ?_
  refine t_ne ?_
  refine c_seq ?_
  refine c_block ?_
  obtain ⟨x53, hj54, hk54⟩ := bindS hm
  refine c_join (fun b51 e' hp' => [(1, .pointer (some ⟨g39, 0, none⟩)), (3, .bool (x53))] = e' ∧ (g39, Cl 65 [.int .i64 (s1.Day), .int .i64 (s1.At), .int .i64 (s1.Km), .int .i64 (s1.Age), .bool (s1.Card), .slice A2 (s1.Zones).length c3]) :: R = hp' ∧ b.Le b51) ?_ ?_
  ·
   have hm := hj54
   refine c_region ?_
   refine t_st rfl (st_field rfl fld65_0) ?_
   refine t_st rfl (st_load 0 rfl one3 rfl rfl) ?_
   obtain ⟨x55, hcl56, hm⟩ := bindS hm
   refine t_do rfl (u_callW0 _ call16 rfl (fun w ho => cFareWithin _ [] s1.Day 0 6 x55 hcl56) (fun _ _ _ h => h.2.symm)) ?_
   rintro _ _ ⟨⟨_, rfl, _⟩, rfl⟩
   rcases Bool.eq_false_or_eq_true x55 with hc57 | hc57
   ·
    rw [if_pos hc57] at hm
    refine t_resp 6 rfl (v' := .bool true) (by rw [hc57] <;> rfl) ?_
    refine t_st rfl (st_not_t rfl) ?_
    refine t_mv rfl rfl ?_
    refine t_yes 8 rfl rfl rfl ?_
    refine t_st rfl (st_field rfl fld65_1) ?_
    refine t_yes 8 rfl rfl rfl ?_
    refine t_st rfl (st_load 0 rfl one3 rfl rfl) ?_
    refine t_yes 8 rfl rfl rfl ?_
    obtain ⟨x58, hcl59, hm⟩ := bindS hm
    refine t_do rfl (u_callW0 _ call16 rfl (fun w ho => cFareWithin _ [] s1.At 0 28800 x58 hcl59) (fun _ _ _ h => h.2.symm)) ?_
    rintro _ _ ⟨⟨_, rfl, _⟩, rfl⟩
    rcases Bool.eq_false_or_eq_true x58 with hc60 | hc60
    ·
     rw [if_pos hc60] at hm
     refine t_resp 11 rfl (v' := .bool true) (by rw [hc60] <;> rfl) ?_
     refine t_yes 8 rfl rfl rfl ?_
     refine t_st rfl (st_not_t rfl) ?_
     refine t_st rfl (st_pick_f rfl rfl) ?_
     refine t_mv rfl rfl ?_
     refine t_yes 14 rfl rfl rfl ?_
     refine t_st rfl (st_field rfl fld65_2) ?_
     refine t_yes 14 rfl rfl rfl ?_
     refine t_st rfl (st_load 0 rfl one3 rfl rfl) ?_
     refine t_yes 14 rfl rfl rfl ?_
     obtain ⟨x61, hcl62, hm⟩ := bindS hm
     refine t_do rfl (u_callW0 _ call16 rfl (fun w ho => cFareWithin _ [] s1.Km 0 1000 x61 hcl62) (fun _ _ _ h => h.2.symm)) ?_
     rintro _ _ ⟨⟨_, rfl, _⟩, rfl⟩
     rcases Bool.eq_false_or_eq_true x61 with hc63 | hc63
     ·
      rw [if_pos hc63] at hm
      refine t_resp 17 rfl (v' := .bool true) (by rw [hc63] <;> rfl) ?_
      refine t_yes 14 rfl rfl rfl ?_
      refine t_st rfl (st_not_t rfl) ?_
      refine t_st rfl (st_pick_f rfl rfl) ?_
      refine t_mv rfl rfl ?_
      refine t_yes 20 rfl rfl rfl ?_
      refine t_st rfl (st_field rfl fld65_3) ?_
      refine t_yes 20 rfl rfl rfl ?_
      refine t_st rfl (st_load 0 rfl one3 rfl rfl) ?_
      refine t_yes 20 rfl rfl rfl ?_
      obtain ⟨x64, hcl65, hm⟩ := bindS hm
      refine t_do rfl (u_callW0 _ call16 rfl (fun w ho => cFareWithin _ [] s1.Age 0 120 x64 hcl65) (fun _ _ _ h => h.2.symm)) ?_
      rintro _ _ ⟨⟨_, rfl, _⟩, rfl⟩
      refine t_yes 20 rfl rfl rfl ?_
      refine t_st rfl (st_not rfl) ?_
      refine t_st rfl (st_pick_f rfl rfl) ?_
      refine t_as rfl rfl ?_
      refine t_nil ?_
      obtain rfl := some1 hm
      exact x_join (e' := [(1, .pointer (some ⟨g39, 0, none⟩)), (3, .bool (!x64))]) ⟨rfl, rfl, trivial⟩ (.refl _) ⟨rfl, rfl, (Base.Le.refl _)⟩
     ·
      rw [if_neg (fun hh => Bool.noConfusion (hh.symm.trans hc63))] at hm
      refine t_resp 17 rfl (v' := .bool false) (by rw [hc63] <;> rfl) ?_
      refine t_yes 14 rfl rfl rfl ?_
      refine t_st rfl (st_not_f rfl) ?_
      refine t_st rfl (st_pick_f rfl rfl) ?_
      refine t_mv rfl rfl ?_
      refine t_no 20 rfl rfl rfl rfl rfl ?_
      refine t_no 20 rfl rfl rfl rfl rfl ?_
      refine t_no 20 rfl rfl rfl rfl rfl ?_
      refine t_no 20 rfl rfl rfl rfl rfl ?_
      refine t_st rfl (st_pick_t rfl rfl) ?_
      refine t_as rfl rfl ?_
      refine t_nil ?_
      obtain rfl := some1 hm
      exact x_join (e' := [(1, .pointer (some ⟨g39, 0, none⟩)), (3, .bool (true))]) ⟨rfl, rfl, trivial⟩ (.refl _) ⟨rfl, rfl, (Base.Le.refl _)⟩
    ·
     rw [if_neg (fun hh => Bool.noConfusion (hh.symm.trans hc60))] at hm
     refine t_resp 11 rfl (v' := .bool false) (by rw [hc60] <;> rfl) ?_
     refine t_yes 8 rfl rfl rfl ?_
     refine t_st rfl (st_not_f rfl) ?_
     refine t_st rfl (st_pick_f rfl rfl) ?_
     refine t_mv rfl rfl ?_
     refine t_no 14 rfl rfl rfl rfl rfl ?_
     refine t_no 14 rfl rfl rfl rfl rfl ?_
     refine t_no 14 rfl rfl rfl rfl rfl ?_
     refine t_no 14 rfl rfl rfl rfl rfl ?_
     refine t_st rfl (st_pick_t rfl rfl) ?_
     refine t_mv rfl rfl ?_
     refine t_no 20 rfl rfl rfl rfl rfl ?_
     refine t_no 20 rfl rfl rfl rfl rfl ?_
     refine t_no 20 rfl rfl rfl rfl rfl ?_
     refine t_no 20 rfl rfl rfl rfl rfl ?_
     refine t_st rfl (st_pick_t rfl rfl) ?_
     refine t_as rfl rfl ?_
     refine t_nil ?_
     obtain rfl := some1 hm
     exact x_join (e' := [(1, .pointer (some ⟨g39, 0, none⟩)), (3, .bool (true))]) ⟨rfl, rfl, trivial⟩ (.refl _) ⟨rfl, rfl, (Base.Le.refl _)⟩
   ·
    rw [if_neg (fun hh => Bool.noConfusion (hh.symm.trans hc57))] at hm
    refine t_resp 6 rfl (v' := .bool false) (by rw [hc57] <;> rfl) ?_
    refine t_st rfl (st_not_f rfl) ?_
    refine t_mv rfl rfl ?_
    refine t_no 8 rfl rfl rfl rfl rfl ?_
    refine t_no 8 rfl rfl rfl rfl rfl ?_
    refine t_no 8 rfl rfl rfl rfl rfl ?_
    refine t_no 8 rfl rfl rfl rfl rfl ?_
    refine t_st rfl (st_pick_t rfl rfl) ?_
    refine t_mv rfl rfl ?_
    refine t_no 14 rfl rfl rfl rfl rfl ?_
    refine t_no 14 rfl rfl rfl rfl rfl ?_
    refine t_no 14 rfl rfl rfl rfl rfl ?_
    refine t_no 14 rfl rfl rfl rfl rfl ?_
    refine t_st rfl (st_pick_t rfl rfl) ?_
    refine t_mv rfl rfl ?_
    refine t_no 20 rfl rfl rfl rfl rfl ?_
    refine t_no 20 rfl rfl rfl rfl rfl ?_
    refine t_no 20 rfl rfl rfl rfl rfl ?_
    refine t_no 20 rfl rfl rfl rfl rfl ?_
    refine t_st rfl (st_pick_t rfl rfl) ?_
    refine t_as rfl rfl ?_
    refine t_nil ?_
    obtain rfl := some1 hm
    exact x_join (e' := [(1, .pointer (some ⟨g39, 0, none⟩)), (3, .bool (true))]) ⟨rfl, rfl, trivial⟩ (.refl _) ⟨rfl, rfl, (Base.Le.refl _)⟩
  ·
   rintro b51 _ _ ⟨rfl, rfl, hle52⟩
   have hm := hk54
   refine c_cond _ rfl (fun hc66 => ?_) (fun hc66 => ?_)
   ·
    rw [if_pos hc66] at hm
    refine c_sr ?_
    refine t_as rfl rfl ?_
    refine t_ne ?_
    refine c_ret ?_
    refine x_block_ret ?_
    refine x_then_ret ?_
    obtain rfl := some1 hm
    exact retM (rs := [.tmp 2]) [.int .i64 (2)] hle52 (by decide) rfl ⟨rfl, trivial⟩ rfl (.cons _ (.refl _)) ⟨rfl, rfl⟩
   ·
    rw [if_neg (fun hh => Bool.noConfusion (hh.symm.trans hc66))] at hm
    refine c_sr ?_
    refine t_st rfl (st_field rfl fld65_5) ?_
    refine t_st rfl (st_load 0 rfl one22 rfl rfl) ?_
    refine t_st rfl (st_len rfl sl22) ?_
    obtain ⟨x67, hcl68, hm⟩ := bindS hm
    refine t_do rfl (u_callW0 _ call16 rfl (fun w ho => cFareWithin _ [] (s1.Zones.length : Int) 1 10 x67 hcl68) (fun _ _ _ h => h.2.symm)) ?_
    rintro _ _ ⟨⟨_, rfl, _⟩, rfl⟩
    refine t_st rfl (st_not rfl) ?_
    refine t_as rfl rfl ?_
    refine t_ne ?_
    refine c_cond _ rfl (fun hc69 => ?_) (fun hc69 => ?_)
    ·
     rw [if_neg (fun hh => Bool.noConfusion (hh.symm.trans (notT hc69)))] at hm
     refine c_sr ?_
     refine t_as rfl rfl ?_
     refine t_ne ?_
     refine c_ret ?_
     refine x_block_ret ?_
     refine x_then_ret ?_
     obtain rfl := some1 hm
     exact retM (rs := [.tmp 2]) [.int .i64 (4)] hle52 (by decide) rfl ⟨rfl, trivial⟩ rfl (.cons _ (.refl _)) ⟨rfl, rfl⟩
    ·
     rw [if_pos (notF hc69)] at hm
     refine c_skip ?_
     refine x_block_normal ?_
     refine x_then_normal ?_
     refine c_sr ?_
     refine t_st rfl (st_field rfl fld65_5) ?_
     refine t_st rfl (st_load 0 rfl one22 rfl rfl) ?_
     obtain ⟨x70, hcl71, hm⟩ := bindS hm
     refine t_do rfl (u_callW0 _ call50 rfl (fun w ho => cFareCheckZones _ [] s1.Zones false A2 c3 ((h4.le hle52).old ho) x70 hcl71) (fun _ _ _ h => h.2.symm)) ?_
     rintro _ _ ⟨⟨_, rfl, _⟩, rfl⟩
     refine t_as rfl rfl ?_
     refine t_ne ?_
     refine c_ret ?_
     obtain rfl := some1 hm
     exact retM (rs := [.tmp 2]) [.int .i64 (x70)] hle52 (by decide) rfl ⟨rfl, trivial⟩ rfl (.cons _ (.refl _)) ⟨rfl, rfl⟩

set_option maxRecDepth 20000 in
theorem cFareTariffPrice_1 (b : Base) (R : Hp) (s2 : FareBand) (x3 : Int) (g1 : Nat) (x5 : Bool) (hm : mFareTariffPrice_1 s2 x3 = some x5) :
    CallsG Tryz.prog 52 [.agg #[.int .i64 (s2.Upto), .int .i64 (s2.Price)], .pointer (some ⟨g1, 0, none⟩)] b ((g1, Cl 3 [.int .i64 (x3)]) :: R) (fun v b' hp' => .bool (x5) = v ∧ (g1, Cl 3 [.int .i64 (x3)]) :: R = hp') := by
  refine fn_enterG 8 Tryz.func52 rfl Tryz.ntmps52 rfl ?_
  unfold mFareTariffPrice_1 at hm
  refine c_sr ?_
  refine t_do rfl (u_box _ rfl rfl) ?_
  rintro _ _ ⟨g6, rfl, rfl⟩
  refine t_as rfl rfl ?_
  refine t_ne ?_
  refine c_sr ?_
  refine t_st rfl (st_field rfl fld56_0) ?_
  refine t_st rfl (st_load 0 rfl one3 rfl rfl) ?_
  refine t_st rfl (st_load 1 rfl one3 rfl rfl) ?_
  refine t_st rfl (st_geq rfl rfl) ?_
  refine t_as rfl rfl ?_
  refine t_ne ?_
  refine c_ret ?_
  obtain rfl := some1 hm
  refine x_pullb 1 rfl ?_
  exact retM (rs := [.tmp 3]) [.bool (decide (x3 ≤ s2.Upto))] (Base.Le.refl _) (by decide) rfl ⟨rfl, trivial⟩ rfl (.cons_cons _ (.cons _ (.refl _))) ⟨rfl, rfl⟩

set_option maxRecDepth 20000 in
theorem cSlicesIndexFunc (b : Base) (R : Hp) (l5 : (List FareBand)) (x6 : Int) (g1 : Nat) (A2 : Option Addr) (c3 : Nat) (h4 : FZ rFareBand b.w A2 c3 l5) (x47 : Int) (hm : mSlicesIndexFunc l5 x6 = some x47) :
    CallsG Tryz.prog 51 [.slice A2 (l5).length c3, .func (.func 52) #[] #[.pointer (some ⟨g1, 0, none⟩)]] b ((g1, Cl 3 [.int .i64 (x6)]) :: R) (fun v b' hp' => .int .i64 (x47) = v ∧ (g1, Cl 3 [.int .i64 (x6)]) :: R = hp') := by
  refine fn_enterG 19 Tryz.func51 rfl Tryz.ntmps51 rfl ?_
  unfold mSlicesIndexFunc at hm
  refine c_sr ?_
  refine t_as rfl rfl ?_
  refine t_ne ?_
  refine c_seq ?_
  refine c_sr ?_
  refine t_mv rfl rfl ?_
  refine t_st rfl (st_len rfl sl45) ?_
  refine t_mv rfl rfl ?_
  refine t_ne ?_
  refine c_block ?_
  have hb49 : l5.length ≤ 9223372036854775807 := (FZ.bd h4)
  obtain ⟨t68, hl69, hk70⟩ := bindS hm
  refine c_forM (fun k67 => fun _ => fun b65 e' hp' => [(0, .slice A2 (l5).length c3), (1, .func (.func 52) #[] #[.pointer (some ⟨g1, 0, none⟩)]), (7, .int .i64 ((l5.length : Int))), (8, .int .i64 ((k67 : Int)))] = e' ∧ (g1, Cl 3 [.int .i64 (x6)]) :: R = hp' ∧ b.Le b65) hl69 (e' := [(0, .slice A2 (l5).length c3), (1, .func (.func 52) #[] #[.pointer (some ⟨g1, 0, none⟩)]), (7, .int .i64 ((l5.length : Int))), (8, .int .i64 0)]) ⟨rfl, rfl, rfl, rfl, trivial⟩ (.refl _) ⟨rfl, rfl, (Base.Le.refl _)⟩ ?_ ?_
  ·
   rintro k67 _ b65 _ _ oL48 hknL48 ⟨rfl, rfl, hle66⟩ hstepL48 houtL48
   unfold mSlicesIndexFunc_L48 at hstepL48
   have hm := hstepL48
   refine c_sr ?_
   refine t_st rfl (st_lss_t rfl rfl (by omega)) ?_
   refine t_ne ?_
   refine c_seq ?_
   refine c_cond_t rfl ?_
   refine c_skip ?_
   refine x_then_normal ?_
   refine c_seq ?_
   refine c_block ?_
   refine c_sr ?_
   refine t_mv rfl rfl ?_
   refine t_as rfl rfl ?_
   refine t_ne ?_
   refine c_sr ?_
   refine t_mv rfl rfl ?_
   refine t_mv rfl rfl ?_
   refine t_mv rfl rfl ?_
   obtain ⟨x71, h72, hm⟩ := bindS hm
   obtain ⟨j73, hj74, hx75⟩ := idx_some h72
   obtain ⟨cs76, hr77, hcs78, hA79, hlt80⟩ := FZ.get (sz := 2) rfl (by decide) (h4.le hle66) hx75
   obtain ⟨_, _, rfl, rfl, rfl⟩ := hr77
   refine t_st rfl (st_index_old j73 rfl rfl hj74 hlt80 hA79 sl45) ?_
   refine t_st rfl (st_loadN_old (vs := [.int .i64 (x71.Upto), .int .i64 (x71.Price)]) 2 rfl agg56 hA79 rfl (fun j u hu => hcs78 j u hu)) ?_
   obtain ⟨x81, hcl82, hm⟩ := bindS hm
   refine t_callvG #[] #[.pointer (some ⟨g1, 0, none⟩)] [.agg #[.int .i64 (x71.Upto), .int .i64 (x71.Price)]] rfl rfl call52 rfl (cFareTariffPrice_1 _ _ x71 x6 g1 x81 hcl82) ?_
   rintro _ b83 _ hle84 ⟨rfl, rfl⟩
   refine t_ne ?_
   refine c_cond _ rfl (fun hc85 => ?_) (fun hc85 => ?_)
   ·
    rw [if_pos hc85] at hm
    refine c_sr ?_
    refine t_mv rfl rfl ?_
    refine t_as rfl rfl ?_
    refine t_ne ?_
    refine c_ret ?_
    refine x_block_ret ?_
    refine x_then_ret ?_
    refine x_then_ret ?_
    refine x_block_ret ?_
    refine x_then_ret ?_
    have hq86 := houtL48 _ (Option.some.inj hm).symm
    rw [hq86] at hk70
    have hm := elimR hk70
    obtain rfl := some1 hm
    exact retM (rs := [.tmp 4]) [.int .i64 ((k67 : Int))] (hle66.trans hle84) (by decide) rfl ⟨rfl, trivial⟩ rfl (.refl _) ⟨rfl, rfl⟩
   ·
    rw [if_neg (fun hh => Bool.noConfusion (hh.symm.trans hc85))] at hm
    refine c_skip ?_
    refine x_block_normal ?_
    refine x_then_normal ?_
    refine c_region ?_
    refine t_st rfl (st_add rfl rfl (by omega)) ?_
    refine t_mv rfl rfl ?_
    refine t_nil ?_
    exact x_againM () (Option.some.inj hm).symm (e' := [(0, .slice A2 (l5).length c3), (1, .func (.func 52) #[] #[.pointer (some ⟨g1, 0, none⟩)]), (7, .int .i64 ((l5.length : Int))), (8, .int .i64 ((k67 : Int) + 1))]) ⟨rfl, rfl, rfl, rfl, trivial⟩ (.refl _) ⟨rfl, rfl, ((hle66.trans hle84))⟩
  ·
   rintro _ b65 _ _ ⟨rfl, rfl, hle66⟩ hq87
   rw [hq87] at hk70
   have hm := elimL hk70
   refine c_sr ?_
   refine t_st rfl (st_lss_f rfl rfl (by omega)) ?_
   refine t_ne ?_
   refine c_seq ?_
   refine c_cond_f rfl ?_
   refine c_exit ?_
   refine x_then_exit ?_
   refine x_then_exit ?_
   refine x_block_out ?_
   refine x_then_normal ?_
   refine c_sr ?_
   refine t_as rfl rfl ?_
   refine t_ne ?_
   refine c_ret ?_
   obtain rfl := some1 hm
   exact retM (rs := [.tmp 4]) [.int .i64 ((-1))] hle66 (by decide) rfl ⟨rfl, trivial⟩ rfl (.refl _) ⟨rfl, rfl⟩

set_option maxRecDepth 20000 in
theorem cFareCondHolds_1 (b : Base) (R : Hp) (x7 : Int) (x8 : Int) (x9 : Int) (x10 : Int) (l11 : (List FareCond)) (g6 : Nat) (A3 : Option Addr) (c4 : Nat) (hs2 : Hp) (h5 : OS 59 (OT.fr rFareCond) b.w (.slice A3 l11.length c4) l11 hs2) (hnz12 : (A3 = none ↔ l11 = [])) (x15 : Bool) (hm : mFareCondHolds_1 x7 x8 x9 x10 l11 = some x15) :
    CallsG Tryz.prog 72 [.int .i64 (x7), .pointer (some ⟨g6, 0, none⟩)] b ((g6, Cl 59 [.int .i64 (x8), .int .i64 (x9), .int .i64 (x10), .slice A3 (l11).length c4]) :: (hs2 ++ R)) (fun v b' hp' => .bool (x15) = v ∧ (g6, Cl 59 [.int .i64 (x8), .int .i64 (x9), .int .i64 (x10), .slice A3 (l11).length c4]) :: (hs2 ++ R) = hp') := by
  refine fn_enterG 10 Tryz.func72 rfl Tryz.ntmps72 rfl ?_
  unfold mFareCondHolds_1 at hm
  refine c_sr ?_
  refine t_as rfl rfl ?_
  refine t_ne ?_
  refine c_sr ?_
  refine t_mv rfl rfl ?_
  refine t_st rfl (st_field rfl fld59_1) ?_
  refine t_st rfl (st_load 0 rfl one3 rfl rfl) ?_
  refine t_st rfl (st_field rfl fld59_2) ?_
  refine t_st rfl (st_load 0 rfl one3 rfl rfl) ?_
  obtain ⟨x16, hcl17, hm⟩ := bindS hm
  refine t_do rfl (u_callW0 _ call16 rfl (fun w ho => cFareWithin _ [] x7 x9 x10 x16 hcl17) (fun _ _ _ h => h.2.symm)) ?_
  rintro _ _ ⟨⟨_, rfl, _⟩, rfl⟩
  refine t_as rfl rfl ?_
  refine t_ne ?_
  refine c_ret ?_
  obtain rfl := some1 hm
  exact retM (rs := [.tmp 3]) [.bool (x16)] (Base.Le.refl _) (by decide) rfl ⟨rfl, trivial⟩ rfl (.refl _) ⟨rfl, rfl⟩

set_option maxRecDepth 20000 in
theorem cSlicesIndex (b : Base) (R : Hp) (l4 : (List Int)) (x5 : Int) (A1 : Option Addr) (c2 : Nat) (h3 : FZ (RT.int .i64) b.w A1 c2 l4) (x38 : Int) (hm : mSlicesIndex l4 x5 = some x38) :
    CallsG Tryz.prog 22 [.slice A1 (l4).length c2, .int .i64 (x5)] b (R) (fun v b' hp' => .int .i64 (x38) = v ∧ R = hp') := by
  refine fn_enterG 19 Tryz.func22 rfl Tryz.ntmps22 rfl ?_
  unfold mSlicesIndex at hm
  refine c_sr ?_
  refine t_as rfl rfl ?_
  refine t_ne ?_
  refine c_seq ?_
  refine c_sr ?_
  refine t_mv rfl rfl ?_
  refine t_st rfl (st_len rfl sl22) ?_
  refine t_mv rfl rfl ?_
  refine t_ne ?_
  refine c_block ?_
  have hb40 : l4.length ≤ 9223372036854775807 := (FZ.bd h3)
  obtain ⟨t55, hl56, hk57⟩ := bindS hm
  refine c_forM (fun k54 => fun _ => fun b52 e' hp' => [(0, .slice A1 (l4).length c2), (1, .int .i64 (x5)), (7, .int .i64 ((l4.length : Int))), (8, .int .i64 ((k54 : Int)))] = e' ∧ R = hp' ∧ b.Le b52) hl56 (e' := [(0, .slice A1 (l4).length c2), (1, .int .i64 (x5)), (7, .int .i64 ((l4.length : Int))), (8, .int .i64 0)]) ⟨rfl, rfl, rfl, rfl, trivial⟩ (.refl _) ⟨rfl, rfl, (Base.Le.refl _)⟩ ?_ ?_
  ·
   rintro k54 _ b52 _ _ oL39 hknL39 ⟨rfl, rfl, hle53⟩ hstepL39 houtL39
   unfold mSlicesIndex_L39 at hstepL39
   have hm := hstepL39
   refine c_sr ?_
   refine t_st rfl (st_lss_t rfl rfl (by omega)) ?_
   refine t_ne ?_
   refine c_seq ?_
   refine c_cond_t rfl ?_
   refine c_skip ?_
   refine x_then_normal ?_
   refine c_seq ?_
   refine c_block ?_
   refine c_sr ?_
   refine t_mv rfl rfl ?_
   refine t_as rfl rfl ?_
   refine t_ne ?_
   refine c_sr ?_
   refine t_mv rfl rfl ?_
   refine t_mv rfl rfl ?_
   refine t_mv rfl rfl ?_
   obtain ⟨x58, h59, hm⟩ := bindS hm
   obtain ⟨j60, hj61, hx62⟩ := idx_some h59
   obtain ⟨cs63, hr64, hcs65, hA66, hlt67⟩ := FZ.get (sz := 1) rfl (by decide) (h3.le hle53) hx62
   obtain rfl := hr64
   refine t_st rfl (st_index_old j60 rfl rfl hj61 hlt67 hA66 sl22) ?_
   refine t_st rfl (st_load_old rfl one3 (hcs65 0 _ rfl)) ?_
   refine t_st rfl (st_eql rfl rfl) ?_
   refine t_ne ?_
   refine c_cond _ rfl (fun hc68 => ?_) (fun hc68 => ?_)
   ·
    rw [if_pos (of_decide_eq_true hc68)] at hm
    refine c_sr ?_
    refine t_mv rfl rfl ?_
    refine t_as rfl rfl ?_
    refine t_ne ?_
    refine c_ret ?_
    refine x_block_ret ?_
    refine x_then_ret ?_
    refine x_then_ret ?_
    refine x_block_ret ?_
    refine x_then_ret ?_
    have hq69 := houtL39 _ (Option.some.inj hm).symm
    rw [hq69] at hk57
    have hm := elimR hk57
    obtain rfl := some1 hm
    exact retM (rs := [.tmp 4]) [.int .i64 ((k54 : Int))] hle53 (by decide) rfl ⟨rfl, trivial⟩ rfl (.refl _) ⟨rfl, rfl⟩
   ·
    rw [if_neg (of_decide_eq_false hc68)] at hm
    refine c_skip ?_
    refine x_block_normal ?_
    refine x_then_normal ?_
    refine c_region ?_
    refine t_st rfl (st_add rfl rfl (by omega)) ?_
    refine t_mv rfl rfl ?_
    refine t_nil ?_
    exact x_againM () (Option.some.inj hm).symm (e' := [(0, .slice A1 (l4).length c2), (1, .int .i64 (x5)), (7, .int .i64 ((l4.length : Int))), (8, .int .i64 ((k54 : Int) + 1))]) ⟨rfl, rfl, rfl, rfl, trivial⟩ (.refl _) ⟨rfl, rfl, (hle53)⟩
  ·
   rintro _ b52 _ _ ⟨rfl, rfl, hle53⟩ hq70
   rw [hq70] at hk57
   have hm := elimL hk57
   refine c_sr ?_
   refine t_st rfl (st_lss_f rfl rfl (by omega)) ?_
   refine t_ne ?_
   refine c_seq ?_
   refine c_cond_f rfl ?_
   refine c_exit ?_
   refine x_then_exit ?_
   refine x_then_exit ?_
   refine x_block_out ?_
   refine x_then_normal ?_
   refine c_sr ?_
   refine t_as rfl rfl ?_
   refine t_ne ?_
   refine c_ret ?_
   obtain rfl := some1 hm
   exact retM (rs := [.tmp 4]) [.int .i64 ((-1))] hle53 (by decide) rfl ⟨rfl, trivial⟩ rfl (.refl _) ⟨rfl, rfl⟩

set_option maxRecDepth 20000 in
theorem cSlicesContains (b : Base) (R : Hp) (l4 : (List Int)) (x5 : Int) (A1 : Option Addr) (c2 : Nat) (h3 : FZ (RT.int .i64) b.w A1 c2 l4) (x8 : Bool) (hm : mSlicesContains l4 x5 = some x8) :
    CallsG Tryz.prog 10 [.slice A1 (l4).length c2, .int .i64 (x5)] b (R) (fun v b' hp' => .bool (x8) = v ∧ R = hp') := by
  refine fn_enterG 9 Tryz.func10 rfl Tryz.ntmps10 rfl ?_
  unfold mSlicesContains at hm
  refine c_sr ?_
  refine t_as rfl rfl ?_
  refine t_ne ?_
  refine c_sr ?_
  refine t_mv rfl rfl ?_
  refine t_mv rfl rfl ?_
  obtain ⟨x9, hcl10, hm⟩ := bindS hm
  refine t_do rfl (u_callW0 _ call22 rfl (fun w ho => cSlicesIndex _ [] l4 x5 A1 c2 (h3.old ho) x9 hcl10) (fun _ _ _ h => h.2.symm)) ?_
  rintro _ _ ⟨⟨_, rfl, _⟩, rfl⟩
  refine t_st rfl (st_geq rfl rfl) ?_
  refine t_as rfl rfl ?_
  refine t_ne ?_
  refine c_ret ?_
  obtain rfl := some1 hm
  exact retM (rs := [.tmp 4]) [.bool (decide (0 ≤ x9))] (Base.Le.refl _) (by decide) rfl ⟨rfl, trivial⟩ rfl (.refl _) ⟨rfl, rfl⟩

set_option maxRecDepth 20000 in
theorem cFareCondHolds_2_5 (rcmFareCondHolds : (FareCond) → (FareTrip) → Option (Bool)) (ihmFareCondHolds : ∀ (b : Base) (R : Hp) (s1 : FareCond) (s2 : FareTrip) (A3 : Option Addr) (c4 : Nat) (h5 : FZ (RT.int .i64) b.w A3 c4 s2.Zones) (x203 : Bool) (hm : rcmFareCondHolds s1 s2 = some x203),
    CallsG Tryz.prog 53 [.agg #[.int .i64 (s1.Kind), .int .i64 (s1.A), .int .i64 (s1.B), .slice none 0 0], .agg #[.int .i64 (s2.Day), .int .i64 (s2.At), .int .i64 (s2.Km), .int .i64 (s2.Age), .bool (s2.Card), .slice A3 (s2.Zones).length c4]] b (R) (fun v b' hp' => .bool (x203) = v ∧ R = hp')) (b : Base) (R : Hp) (s2 : FareCond) (x3 : Int) (x4 : Int) (x5 : Int) (x6 : Int) (x7 : Bool) (l11 : (List Int)) (g1 : Nat) (A8 : Option Addr) (c9 : Nat) (h10 : FZ (RT.int .i64) b.w A8 c9 l11) (x15 : Bool) (hm : mFareCondHolds_2_5 rcmFareCondHolds s2 x3 x4 x5 x6 x7 l11 = some x15) :
    CallsG Tryz.prog 74 [.agg #[.int .i64 (s2.Kind), .int .i64 (s2.A), .int .i64 (s2.B), .slice none 0 0], .pointer (some ⟨g1, 0, none⟩)] b ((g1, Cl 65 [.int .i64 (x3), .int .i64 (x4), .int .i64 (x5), .int .i64 (x6), .bool (x7), .slice A8 (l11).length c9]) :: R) (fun v b' hp' => .bool (x15) = v ∧ (g1, Cl 65 [.int .i64 (x3), .int .i64 (x4), .int .i64 (x5), .int .i64 (x6), .bool (x7), .slice A8 (l11).length c9]) :: R = hp') := by
  refine fn_enterG 8 Tryz.func74 rfl Tryz.ntmps74 rfl ?_
  unfold mFareCondHolds_2_5 at hm
  refine c_sr ?_
  refine t_do rfl (u_box _ rfl rfl) ?_
  rintro _ _ ⟨g16, rfl, rfl⟩
  refine t_as rfl rfl ?_
  refine t_ne ?_
  refine c_sr ?_
  refine t_st rfl (st_loadD (vs := [_, _, _, _]) 0 4 rfl agg59 rfl rfl rfl) ?_
  refine t_st rfl (st_loadD (vs := [_, _, _, _, _, _]) 1 6 rfl agg65 rfl rfl rfl) ?_
  obtain ⟨x17, hcl18, hm⟩ := bindS hm
  refine t_do rfl (u_callW0 _ call53 rfl (fun w ho => ihmFareCondHolds _ [] s2 (⟨x3, x4, x5, x6, x7, l11⟩ : FareTrip) A8 c9 (h10.old ho) x17 hcl18) (fun _ _ _ h => h.2.symm)) ?_
  rintro _ _ ⟨⟨_, rfl, _⟩, rfl⟩
  refine t_st rfl (st_not rfl) ?_
  refine t_as rfl rfl ?_
  refine t_ne ?_
  refine c_ret ?_
  obtain rfl := some1 hm
  refine x_pullb 1 rfl ?_
  exact retM (rs := [.tmp 3]) [.bool (!x17)] (Base.Le.refl _) (by decide) rfl ⟨rfl, trivial⟩ rfl (.cons_cons _ (.cons _ (.refl _))) ⟨rfl, rfl⟩

set_option maxRecDepth 20000 in
theorem cSlicesIndexFunc_2 (rcmFareCondHolds : (FareCond) → (FareTrip) → Option (Bool)) (ihmFareCondHolds : ∀ (b : Base) (R : Hp) (s1 : FareCond) (s2 : FareTrip) (A3 : Option Addr) (c4 : Nat) (h5 : FZ (RT.int .i64) b.w A3 c4 s2.Zones) (x203 : Bool) (hm : rcmFareCondHolds s1 s2 = some x203),
    CallsG Tryz.prog 53 [.agg #[.int .i64 (s1.Kind), .int .i64 (s1.A), .int .i64 (s1.B), .slice none 0 0], .agg #[.int .i64 (s2.Day), .int .i64 (s2.At), .int .i64 (s2.Km), .int .i64 (s2.Age), .bool (s2.Card), .slice A3 (s2.Zones).length c4]] b (R) (fun v b' hp' => .bool (x203) = v ∧ R = hp')) (b : Base) (R : Hp) (l5 : (List FareCond)) (x6 : Int) (x7 : Int) (x8 : Int) (x9 : Int) (x10 : Bool) (l14 : (List Int)) (g1 : Nat) (A2 : Option Addr) (c3 : Nat) (A11 : Option Addr) (c12 : Nat) (h4 : FZ rFareCond b.w A2 c3 l5) (h13 : FZ (RT.int .i64) b.w A11 c12 l14) (x55 : Int) (hm : mSlicesIndexFunc_2 rcmFareCondHolds l5 x6 x7 x8 x9 x10 l14 = some x55) :
    CallsG Tryz.prog 101 [.slice A2 (l5).length c3, .func (.func 74) #[] #[.pointer (some ⟨g1, 0, none⟩)]] b ((g1, Cl 65 [.int .i64 (x6), .int .i64 (x7), .int .i64 (x8), .int .i64 (x9), .bool (x10), .slice A11 (l14).length c12]) :: R) (fun v b' hp' => .int .i64 (x55) = v ∧ (g1, Cl 65 [.int .i64 (x6), .int .i64 (x7), .int .i64 (x8), .int .i64 (x9), .bool (x10), .slice A11 (l14).length c12]) :: R = hp') := by
  refine fn_enterG 19 Tryz.func101 rfl Tryz.ntmps101 rfl ?_
  unfold mSlicesIndexFunc_2 at hm
  refine c_sr ?_
  refine t_as rfl rfl ?_
  refine t_ne ?_
  refine c_seq ?_
  refine c_sr ?_
  refine t_mv rfl rfl ?_
  refine t_st rfl (st_len rfl sl57) ?_
  refine t_mv rfl rfl ?_
  refine t_ne ?_
  refine c_block ?_
  have hb57 : l5.length ≤ 9223372036854775807 := (FZ.bd h4)
  obtain ⟨t76, hl77, hk78⟩ := bindS hm
  refine c_forM (fun k75 => fun _ => fun b73 e' hp' => [(0, .slice A2 (l5).length c3), (1, .func (.func 74) #[] #[.pointer (some ⟨g1, 0, none⟩)]), (7, .int .i64 ((l5.length : Int))), (8, .int .i64 ((k75 : Int)))] = e' ∧ (g1, Cl 65 [.int .i64 (x6), .int .i64 (x7), .int .i64 (x8), .int .i64 (x9), .bool (x10), .slice A11 (l14).length c12]) :: R = hp' ∧ b.Le b73) hl77 (e' := [(0, .slice A2 (l5).length c3), (1, .func (.func 74) #[] #[.pointer (some ⟨g1, 0, none⟩)]), (7, .int .i64 ((l5.length : Int))), (8, .int .i64 0)]) ⟨rfl, rfl, rfl, rfl, trivial⟩ (.refl _) ⟨rfl, rfl, (Base.Le.refl _)⟩ ?_ ?_
  ·
   rintro k75 _ b73 _ _ oL56 hknL56 ⟨rfl, rfl, hle74⟩ hstepL56 houtL56
   unfold mSlicesIndexFunc_2_L56 at hstepL56
   have hm := hstepL56
   refine c_sr ?_
   refine t_st rfl (st_lss_t rfl rfl (by omega)) ?_
   refine t_ne ?_
   refine c_seq ?_
   refine c_cond_t rfl ?_
   refine c_skip ?_
   refine x_then_normal ?_
   refine c_seq ?_
   refine c_block ?_
   refine c_sr ?_
   refine t_mv rfl rfl ?_
   refine t_as rfl rfl ?_
   refine t_ne ?_
   refine c_sr ?_
   refine t_mv rfl rfl ?_
   refine t_mv rfl rfl ?_
   refine t_mv rfl rfl ?_
   obtain ⟨x79, h80, hm⟩ := bindS hm
   obtain ⟨j81, hj82, hx83⟩ := idx_some h80
   obtain ⟨cs84, hr85, hcs86, hA87, hlt88⟩ := FZ.get (sz := 4) rfl (by decide) (h4.le hle74) hx83
   obtain ⟨_, _, rfl, rfl, ⟨_, _, rfl, rfl, ⟨_, _, rfl, rfl, rfl⟩⟩⟩ := hr85
   refine t_st rfl (st_index_old j81 rfl rfl hj82 hlt88 hA87 sl57) ?_
   refine t_st rfl (st_loadN_old (vs := [.int .i64 (x79.Kind), .int .i64 (x79.A), .int .i64 (x79.B), .slice none 0 0]) 4 rfl agg59 hA87 rfl (fun j u hu => hcs86 j u hu)) ?_
   obtain ⟨x89, hcl90, hm⟩ := bindS hm
   refine t_callvG #[] #[.pointer (some ⟨g1, 0, none⟩)] [.agg #[.int .i64 (x79.Kind), .int .i64 (x79.A), .int .i64 (x79.B), .slice none 0 0]] rfl rfl call74 rfl (cFareCondHolds_2_5 rcmFareCondHolds ihmFareCondHolds _ _ x79 x6 x7 x8 x9 x10 l14 g1 A11 c12 (h13.le hle74) x89 hcl90) ?_
   rintro _ b91 _ hle92 ⟨rfl, rfl⟩
   refine t_ne ?_
   refine c_cond _ rfl (fun hc93 => ?_) (fun hc93 => ?_)
   ·
    rw [if_pos hc93] at hm
    refine c_sr ?_
    refine t_mv rfl rfl ?_
    refine t_as rfl rfl ?_
    refine t_ne ?_
    refine c_ret ?_
    refine x_block_ret ?_
    refine x_then_ret ?_
    refine x_then_ret ?_
    refine x_block_ret ?_
    refine x_then_ret ?_
    have hq94 := houtL56 _ (Option.some.inj hm).symm
    rw [hq94] at hk78
    have hm := elimR hk78
    obtain rfl := some1 hm
    exact retM (rs := [.tmp 4]) [.int .i64 ((k75 : Int))] (hle74.trans hle92) (by decide) rfl ⟨rfl, trivial⟩ rfl (.refl _) ⟨rfl, rfl⟩
   ·
    rw [if_neg (fun hh => Bool.noConfusion (hh.symm.trans hc93))] at hm
    refine c_skip ?_
    refine x_block_normal ?_
    refine x_then_normal ?_
    refine c_region ?_
    refine t_st rfl (st_add rfl rfl (by omega)) ?_
    refine t_mv rfl rfl ?_
    refine t_nil ?_
    exact x_againM () (Option.some.inj hm).symm (e' := [(0, .slice A2 (l5).length c3), (1, .func (.func 74) #[] #[.pointer (some ⟨g1, 0, none⟩)]), (7, .int .i64 ((l5.length : Int))), (8, .int .i64 ((k75 : Int) + 1))]) ⟨rfl, rfl, rfl, rfl, trivial⟩ (.refl _) ⟨rfl, rfl, ((hle74.trans hle92))⟩
  ·
   rintro _ b73 _ _ ⟨rfl, rfl, hle74⟩ hq95
   rw [hq95] at hk78
   have hm := elimL hk78
   refine c_sr ?_
   refine t_st rfl (st_lss_f rfl rfl (by omega)) ?_
   refine t_ne ?_
   refine c_seq ?_
   refine c_cond_f rfl ?_
   refine c_exit ?_
   refine x_then_exit ?_
   refine x_then_exit ?_
   refine x_block_out ?_
   refine x_then_normal ?_
   refine c_sr ?_
   refine t_as rfl rfl ?_
   refine t_ne ?_
   refine c_ret ?_
   obtain rfl := some1 hm
   exact retM (rs := [.tmp 4]) [.int .i64 ((-1))] hle74 (by decide) rfl ⟨rfl, trivial⟩ rfl (.refl _) ⟨rfl, rfl⟩

set_option maxRecDepth 20000 in
theorem cSlicesContainsFunc (rcmFareCondHolds : (FareCond) → (FareTrip) → Option (Bool)) (ihmFareCondHolds : ∀ (b : Base) (R : Hp) (s1 : FareCond) (s2 : FareTrip) (A3 : Option Addr) (c4 : Nat) (h5 : FZ (RT.int .i64) b.w A3 c4 s2.Zones) (x203 : Bool) (hm : rcmFareCondHolds s1 s2 = some x203),
    CallsG Tryz.prog 53 [.agg #[.int .i64 (s1.Kind), .int .i64 (s1.A), .int .i64 (s1.B), .slice none 0 0], .agg #[.int .i64 (s2.Day), .int .i64 (s2.At), .int .i64 (s2.Km), .int .i64 (s2.Age), .bool (s2.Card), .slice A3 (s2.Zones).length c4]] b (R) (fun v b' hp' => .bool (x203) = v ∧ R = hp')) (b : Base) (R : Hp) (l5 : (List FareCond)) (x6 : Int) (x7 : Int) (x8 : Int) (x9 : Int) (x10 : Bool) (l14 : (List Int)) (g1 : Nat) (A2 : Option Addr) (c3 : Nat) (A11 : Option Addr) (c12 : Nat) (h4 : FZ rFareCond b.w A2 c3 l5) (h13 : FZ (RT.int .i64) b.w A11 c12 l14) (x19 : Bool) (hm : mSlicesContainsFunc rcmFareCondHolds l5 x6 x7 x8 x9 x10 l14 = some x19) :
    CallsG Tryz.prog 73 [.slice A2 (l5).length c3, .func (.func 74) #[] #[.pointer (some ⟨g1, 0, none⟩)]] b ((g1, Cl 65 [.int .i64 (x6), .int .i64 (x7), .int .i64 (x8), .int .i64 (x9), .bool (x10), .slice A11 (l14).length c12]) :: R) (fun v b' hp' => .bool (x19) = v ∧ (g1, Cl 65 [.int .i64 (x6), .int .i64 (x7), .int .i64 (x8), .int .i64 (x9), .bool (x10), .slice A11 (l14).length c12]) :: R = hp') := by
  refine fn_enterG 9 Tryz.func73 rfl Tryz.ntmps73 rfl ?_
  unfold mSlicesContainsFunc at hm
  refine c_sr ?_
  refine t_as rfl rfl ?_
  refine t_ne ?_
  refine c_sr ?_
  refine t_mv rfl rfl ?_
  refine t_mv rfl rfl ?_
  obtain ⟨x20, hcl21, hm⟩ := bindS hm
  refine t_callG _ rfl call101 rfl (cSlicesIndexFunc_2 rcmFareCondHolds ihmFareCondHolds _ _ l5 x6 x7 x8 x9 x10 l14 g1 A2 c3 A11 c12 h4 h13 x20 hcl21) ?_
  rintro _ b22 _ hle23 ⟨rfl, rfl⟩
  refine t_st rfl (st_geq rfl rfl) ?_
  refine t_as rfl rfl ?_
  refine t_ne ?_
  refine c_ret ?_
  obtain rfl := some1 hm
  exact retM (rs := [.tmp 4]) [.bool (decide (0 ≤ x20))] hle23 (by decide) rfl ⟨rfl, trivial⟩ rfl (.refl _) ⟨rfl, rfl⟩

set_option maxRecDepth 20000 in
theorem cFareCondHolds_3_5 (rcmFareCondHolds : (FareCond) → (FareTrip) → Option (Bool)) (ihmFareCondHolds : ∀ (b : Base) (R : Hp) (s1 : FareCond) (s2 : FareTrip) (A3 : Option Addr) (c4 : Nat) (h5 : FZ (RT.int .i64) b.w A3 c4 s2.Zones) (x203 : Bool) (hm : rcmFareCondHolds s1 s2 = some x203),
    CallsG Tryz.prog 53 [.agg #[.int .i64 (s1.Kind), .int .i64 (s1.A), .int .i64 (s1.B), .slice none 0 0], .agg #[.int .i64 (s2.Day), .int .i64 (s2.At), .int .i64 (s2.Km), .int .i64 (s2.Age), .bool (s2.Card), .slice A3 (s2.Zones).length c4]] b (R) (fun v b' hp' => .bool (x203) = v ∧ R = hp')) (b : Base) (R : Hp) (s2 : FareCond) (x3 : Int) (x4 : Int) (x5 : Int) (x6 : Int) (x7 : Bool) (l11 : (List Int)) (g1 : Nat) (A8 : Option Addr) (c9 : Nat) (h10 : FZ (RT.int .i64) b.w A8 c9 l11) (x15 : Bool) (hm : mFareCondHolds_3_5 rcmFareCondHolds s2 x3 x4 x5 x6 x7 l11 = some x15) :
    CallsG Tryz.prog 75 [.agg #[.int .i64 (s2.Kind), .int .i64 (s2.A), .int .i64 (s2.B), .slice none 0 0], .pointer (some ⟨g1, 0, none⟩)] b ((g1, Cl 65 [.int .i64 (x3), .int .i64 (x4), .int .i64 (x5), .int .i64 (x6), .bool (x7), .slice A8 (l11).length c9]) :: R) (fun v b' hp' => .bool (x15) = v ∧ (g1, Cl 65 [.int .i64 (x3), .int .i64 (x4), .int .i64 (x5), .int .i64 (x6), .bool (x7), .slice A8 (l11).length c9]) :: R = hp') := by
  refine fn_enterG 7 Tryz.func75 rfl Tryz.ntmps75 rfl ?_
  unfold mFareCondHolds_3_5 at hm
  refine c_sr ?_
  refine t_do rfl (u_box _ rfl rfl) ?_
  rintro _ _ ⟨g16, rfl, rfl⟩
  refine t_as rfl rfl ?_
  refine t_ne ?_
  refine c_sr ?_
  refine t_st rfl (st_loadD (vs := [_, _, _, _]) 0 4 rfl agg59 rfl rfl rfl) ?_
  refine t_st rfl (st_loadD (vs := [_, _, _, _, _, _]) 1 6 rfl agg65 rfl rfl rfl) ?_
  obtain ⟨x17, hcl18, hm⟩ := bindS hm
  refine t_do rfl (u_callW0 _ call53 rfl (fun w ho => ihmFareCondHolds _ [] s2 (⟨x3, x4, x5, x6, x7, l11⟩ : FareTrip) A8 c9 (h10.old ho) x17 hcl18) (fun _ _ _ h => h.2.symm)) ?_
  rintro _ _ ⟨⟨_, rfl, _⟩, rfl⟩
  refine t_as rfl rfl ?_
  refine t_ne ?_
  refine c_ret ?_
  obtain rfl := some1 hm
  refine x_pullb 1 rfl ?_
  exact retM (rs := [.tmp 3]) [.bool (x17)] (Base.Le.refl _) (by decide) rfl ⟨rfl, trivial⟩ rfl (.cons_cons _ (.cons _ (.refl _))) ⟨rfl, rfl⟩

set_option maxRecDepth 20000 in
theorem cSlicesIndexFunc_3 (rcmFareCondHolds : (FareCond) → (FareTrip) → Option (Bool)) (ihmFareCondHolds : ∀ (b : Base) (R : Hp) (s1 : FareCond) (s2 : FareTrip) (A3 : Option Addr) (c4 : Nat) (h5 : FZ (RT.int .i64) b.w A3 c4 s2.Zones) (x203 : Bool) (hm : rcmFareCondHolds s1 s2 = some x203),
    CallsG Tryz.prog 53 [.agg #[.int .i64 (s1.Kind), .int .i64 (s1.A), .int .i64 (s1.B), .slice none 0 0], .agg #[.int .i64 (s2.Day), .int .i64 (s2.At), .int .i64 (s2.Km), .int .i64 (s2.Age), .bool (s2.Card), .slice A3 (s2.Zones).length c4]] b (R) (fun v b' hp' => .bool (x203) = v ∧ R = hp')) (b : Base) (R : Hp) (l5 : (List FareCond)) (x6 : Int) (x7 : Int) (x8 : Int) (x9 : Int) (x10 : Bool) (l14 : (List Int)) (g1 : Nat) (A2 : Option Addr) (c3 : Nat) (A11 : Option Addr) (c12 : Nat) (h4 : FZ rFareCond b.w A2 c3 l5) (h13 : FZ (RT.int .i64) b.w A11 c12 l14) (x55 : Int) (hm : mSlicesIndexFunc_3 rcmFareCondHolds l5 x6 x7 x8 x9 x10 l14 = some x55) :
    CallsG Tryz.prog 101 [.slice A2 (l5).length c3, .func (.func 75) #[] #[.pointer (some ⟨g1, 0, none⟩)]] b ((g1, Cl 65 [.int .i64 (x6), .int .i64 (x7), .int .i64 (x8), .int .i64 (x9), .bool (x10), .slice A11 (l14).length c12]) :: R) (fun v b' hp' => .int .i64 (x55) = v ∧ (g1, Cl 65 [.int .i64 (x6), .int .i64 (x7), .int .i64 (x8), .int .i64 (x9), .bool (x10), .slice A11 (l14).length c12]) :: R = hp') := by
  refine fn_enterG 19 Tryz.func101 rfl Tryz.ntmps101 rfl ?_
  unfold mSlicesIndexFunc_3 at hm
  refine c_sr ?_
  refine t_as rfl rfl ?_
  refine t_ne ?_
  refine c_seq ?_
  refine c_sr ?_
  refine t_mv rfl rfl ?_
  refine t_st rfl (st_len rfl sl57) ?_
  refine t_mv rfl rfl ?_
  refine t_ne ?_
  refine c_block ?_
  have hb57 : l5.length ≤ 9223372036854775807 := (FZ.bd h4)
  obtain ⟨t76, hl77, hk78⟩ := bindS hm
  refine c_forM (fun k75 => fun _ => fun b73 e' hp' => [(0, .slice A2 (l5).length c3), (1, .func (.func 75) #[] #[.pointer (some ⟨g1, 0, none⟩)]), (7, .int .i64 ((l5.length : Int))), (8, .int .i64 ((k75 : Int)))] = e' ∧ (g1, Cl 65 [.int .i64 (x6), .int .i64 (x7), .int .i64 (x8), .int .i64 (x9), .bool (x10), .slice A11 (l14).length c12]) :: R = hp' ∧ b.Le b73) hl77 (e' := [(0, .slice A2 (l5).length c3), (1, .func (.func 75) #[] #[.pointer (some ⟨g1, 0, none⟩)]), (7, .int .i64 ((l5.length : Int))), (8, .int .i64 0)]) ⟨rfl, rfl, rfl, rfl, trivial⟩ (.refl _) ⟨rfl, rfl, (Base.Le.refl _)⟩ ?_ ?_
  ·
   rintro k75 _ b73 _ _ oL56 hknL56 ⟨rfl, rfl, hle74⟩ hstepL56 houtL56
   unfold mSlicesIndexFunc_3_L56 at hstepL56
   have hm := hstepL56
   refine c_sr ?_
   refine t_st rfl (st_lss_t rfl rfl (by omega)) ?_
   refine t_ne ?_
   refine c_seq ?_
   refine c_cond_t rfl ?_
   refine c_skip ?_
   refine x_then_normal ?_
   refine c_seq ?_
   refine c_block ?_
   refine c_sr ?_
   refine t_mv rfl rfl ?_
   refine t_as rfl rfl ?_
   refine t_ne ?_
   refine c_sr ?_
   refine t_mv rfl rfl ?_
   refine t_mv rfl rfl ?_
   refine t_mv rfl rfl ?_
   obtain ⟨x79, h80, hm⟩ := bindS hm
   obtain ⟨j81, hj82, hx83⟩ := idx_some h80
   obtain ⟨cs84, hr85, hcs86, hA87, hlt88⟩ := FZ.get (sz := 4) rfl (by decide) (h4.le hle74) hx83
   obtain ⟨_, _, rfl, rfl, ⟨_, _, rfl, rfl, ⟨_, _, rfl, rfl, rfl⟩⟩⟩ := hr85
   refine t_st rfl (st_index_old j81 rfl rfl hj82 hlt88 hA87 sl57) ?_
   refine t_st rfl (st_loadN_old (vs := [.int .i64 (x79.Kind), .int .i64 (x79.A), .int .i64 (x79.B), .slice none 0 0]) 4 rfl agg59 hA87 rfl (fun j u hu => hcs86 j u hu)) ?_
   obtain ⟨x89, hcl90, hm⟩ := bindS hm
   refine t_callvG #[] #[.pointer (some ⟨g1, 0, none⟩)] [.agg #[.int .i64 (x79.Kind), .int .i64 (x79.A), .int .i64 (x79.B), .slice none 0 0]] rfl rfl call75 rfl (cFareCondHolds_3_5 rcmFareCondHolds ihmFareCondHolds _ _ x79 x6 x7 x8 x9 x10 l14 g1 A11 c12 (h13.le hle74) x89 hcl90) ?_
   rintro _ b91 _ hle92 ⟨rfl, rfl⟩
   refine t_ne ?_
   refine c_cond _ rfl (fun hc93 => ?_) (fun hc93 => ?_)
   ·
    rw [if_pos hc93] at hm
    refine c_sr ?_
    refine t_mv rfl rfl ?_
    refine t_as rfl rfl ?_
    refine t_ne ?_
    refine c_ret ?_
    refine x_block_ret ?_
    refine x_then_ret ?_
    refine x_then_ret ?_
    refine x_block_ret ?_
    refine x_then_ret ?_
    have hq94 := houtL56 _ (Option.some.inj hm).symm
    rw [hq94] at hk78
    have hm := elimR hk78
    obtain rfl := some1 hm
    exact retM (rs := [.tmp 4]) [.int .i64 ((k75 : Int))] (hle74.trans hle92) (by decide) rfl ⟨rfl, trivial⟩ rfl (.refl _) ⟨rfl, rfl⟩
   ·
    rw [if_neg (fun hh => Bool.noConfusion (hh.symm.trans hc93))] at hm
    refine c_skip ?_
    refine x_block_normal ?_
    refine x_then_normal ?_
    refine c_region ?_
    refine t_st rfl (st_add rfl rfl (by omega)) ?_
    refine t_mv rfl rfl ?_
    refine t_nil ?_
    exact x_againM () (Option.some.inj hm).symm (e' := [(0, .slice A2 (l5).length c3), (1, .func (.func 75) #[] #[.pointer (some ⟨g1, 0, none⟩)]), (7, .int .i64 ((l5.length : Int))), (8, .int .i64 ((k75 : Int) + 1))]) ⟨rfl, rfl, rfl, rfl, trivial⟩ (.refl _) ⟨rfl, rfl, ((hle74.trans hle92))⟩
  ·
   rintro _ b73 _ _ ⟨rfl, rfl, hle74⟩ hq95
   rw [hq95] at hk78
   have hm := elimL hk78
   refine c_sr ?_
   refine t_st rfl (st_lss_f rfl rfl (by omega)) ?_
   refine t_ne ?_
   refine c_seq ?_
   refine c_cond_f rfl ?_
   refine c_exit ?_
   refine x_then_exit ?_
   refine x_then_exit ?_
   refine x_block_out ?_
   refine x_then_normal ?_
   refine c_sr ?_
   refine t_as rfl rfl ?_
   refine t_ne ?_
   refine c_ret ?_
   obtain rfl := some1 hm
   exact retM (rs := [.tmp 4]) [.int .i64 ((-1))] hle74 (by decide) rfl ⟨rfl, trivial⟩ rfl (.refl _) ⟨rfl, rfl⟩

set_option maxRecDepth 20000 in
theorem cSlicesContainsFunc_2 (rcmFareCondHolds : (FareCond) → (FareTrip) → Option (Bool)) (ihmFareCondHolds : ∀ (b : Base) (R : Hp) (s1 : FareCond) (s2 : FareTrip) (A3 : Option Addr) (c4 : Nat) (h5 : FZ (RT.int .i64) b.w A3 c4 s2.Zones) (x203 : Bool) (hm : rcmFareCondHolds s1 s2 = some x203),
    CallsG Tryz.prog 53 [.agg #[.int .i64 (s1.Kind), .int .i64 (s1.A), .int .i64 (s1.B), .slice none 0 0], .agg #[.int .i64 (s2.Day), .int .i64 (s2.At), .int .i64 (s2.Km), .int .i64 (s2.Age), .bool (s2.Card), .slice A3 (s2.Zones).length c4]] b (R) (fun v b' hp' => .bool (x203) = v ∧ R = hp')) (b : Base) (R : Hp) (l5 : (List FareCond)) (x6 : Int) (x7 : Int) (x8 : Int) (x9 : Int) (x10 : Bool) (l14 : (List Int)) (g1 : Nat) (A2 : Option Addr) (c3 : Nat) (A11 : Option Addr) (c12 : Nat) (h4 : FZ rFareCond b.w A2 c3 l5) (h13 : FZ (RT.int .i64) b.w A11 c12 l14) (x19 : Bool) (hm : mSlicesContainsFunc_2 rcmFareCondHolds l5 x6 x7 x8 x9 x10 l14 = some x19) :
    CallsG Tryz.prog 73 [.slice A2 (l5).length c3, .func (.func 75) #[] #[.pointer (some ⟨g1, 0, none⟩)]] b ((g1, Cl 65 [.int .i64 (x6), .int .i64 (x7), .int .i64 (x8), .int .i64 (x9), .bool (x10), .slice A11 (l14).length c12]) :: R) (fun v b' hp' => .bool (x19) = v ∧ (g1, Cl 65 [.int .i64 (x6), .int .i64 (x7), .int .i64 (x8), .int .i64 (x9), .bool (x10), .slice A11 (l14).length c12]) :: R = hp') := by
  refine fn_enterG 9 Tryz.func73 rfl Tryz.ntmps73 rfl ?_
  unfold mSlicesContainsFunc_2 at hm
  refine c_sr ?_
  refine t_as rfl rfl ?_
  refine t_ne ?_
  refine c_sr ?_
  refine t_mv rfl rfl ?_
  refine t_mv rfl rfl ?_
  obtain ⟨x20, hcl21, hm⟩ := bindS hm
  refine t_callG _ rfl call101 rfl (cSlicesIndexFunc_3 rcmFareCondHolds ihmFareCondHolds _ _ l5 x6 x7 x8 x9 x10 l14 g1 A2 c3 A11 c12 h4 h13 x20 hcl21) ?_
  rintro _ b22 _ hle23 ⟨rfl, rfl⟩
  refine t_st rfl (st_geq rfl rfl) ?_
  refine t_as rfl rfl ?_
  refine t_ne ?_
  refine c_ret ?_
  obtain rfl := some1 hm
  exact retM (rs := [.tmp 4]) [.bool (decide (0 ≤ x20))] hle23 (by decide) rfl ⟨rfl, trivial⟩ rfl (.refl _) ⟨rfl, rfl⟩

end Go.Proofs.YthcgoaejnpelbaaGreatDoor
