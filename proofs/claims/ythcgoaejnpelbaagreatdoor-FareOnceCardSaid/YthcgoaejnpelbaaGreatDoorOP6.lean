/- Contracts: the code computes its model (part 6). -/
import Derived.Test.YthcgoaejnpelbaaGreatDoorOP5
set_option linter.unusedVariables false
set_option linter.unusedSimpArgs false
namespace Go.Proofs.YthcgoaejnpelbaaGreatDoor
open Go.RowKit Go.Fp

set_option maxRecDepth 20000 in
theorem cFishkeep2FareOnce (b : Base) (R : Hp) (x1 : Int) (x2 : Int) (x3 : Int) (l7 : (List Int)) (A4 : Option Addr) (c5 : Nat) (h6 : FZ (RT.int .i64) b.w A4 c5 l7) (x2383 : Bool) (hm : mFishkeep2FareOnce x1 x2 x3 l7 = some x2383) :
    CallsG Tryz.prog 3 [.int .i64 (x1), .int .i64 (x2), .int .i64 (x3), .slice A4 (l7).length c5] b (R) (fun v b' hp' => .bool (x2383) = v ∧ R = hp') := by
  refine fn_enterG 201 Tryz.func3 rfl Tryz.ntmps3 rfl ?_
  unfold mFishkeep2FareOnce at hm
  refine c_sr ?_
  refine t_as rfl rfl ?_
  refine t_ne ?_
  refine c_seq ?_
  refine c_sr ?_
  obtain ⟨_, hcl2384, hm⟩ := bindS hm
  refine t_do rfl (u_callW0 _ call4 rfl (fun w ho => cFishkeep2AwakeFare _ [] hcl2384) (fun _ _ _ h => h.2.symm)) ?_
  rintro _ _ ⟨⟨_, rfl, _⟩, rfl⟩
  refine t_st rfl (st_not_t rfl) ?_
  refine t_ne ?_
  refine c_cond_f rfl ?_
  refine c_skip ?_
  refine x_then_normal ?_
  refine c_sr ?_
  refine t_mv rfl rfl ?_
  refine t_mv rfl rfl ?_
  refine t_mv rfl rfl ?_
  obtain ⟨⟨x2385, x2386, x2387, l2388, l2389⟩, hcl2390, hm⟩ := bindS hm
  have hm := (unc5E hm)
  refine t_callG _ rfl call5 rfl (cFareNewCar _ _ x1 x2 x3 x2385 x2386 x2387 l2388 l2389 hcl2390) ?_
  rintro _ b2391 _ hle2392 ⟨g2393, A2394, c2395, hs2396, A2397, c2398, hs2399, rfl, rfl, h2400, h2401, h2402, h2403⟩
  refine t_in2 [_] [] hs2396 hs2399 R rfl ?_
  refine t_mv rfl rfl ?_
  refine t_st rfl (st_extract rfl rfl) ?_
  refine t_st rfl (st_extract rfl rfl) ?_
  refine t_as rfl rfl ?_
  refine t_as rfl rfl ?_
  refine t_ne ?_
  refine c_seq ?_
  refine c_sr ?_
  obtain ⟨x2404, hcl2405, hm⟩ := bindS hm
  refine t_do rfl (u_callW0 _ call6 rfl (fun w ho => cFishkeep2Fares _ [] x2404 hcl2405) (fun _ _ _ h => h.2.symm)) ?_
  rintro _ _ ⟨⟨_, rfl, _⟩, rfl⟩
  refine t_st rfl (st_not rfl) ?_
  refine t_ne ?_
  refine c_cond _ rfl (fun hc2406 => ?_) (fun hc2406 => ?_)
  ·
   rw [if_neg (fun hh => Bool.noConfusion (hh.symm.trans (notT hc2406)))] at hm
   refine c_sr ?_
   refine t_as rfl rfl ?_
   refine t_ne ?_
   refine c_ret ?_
   refine x_then_ret ?_
   obtain rfl := some1 hm
   exact retM (rs := [.tmp 8]) [.bool (false)] hle2392 (by decide) rfl ⟨rfl, trivial⟩ rfl (.cons _ (sub_skip hs2396 (sub_skip hs2399 (.refl _)))) ⟨rfl, rfl⟩
  ·
   rw [if_pos (notF hc2406)] at hm
   refine c_skip ?_
   refine x_then_normal ?_
   refine c_seq ?_
   refine c_sr ?_
   refine t_mv rfl rfl ?_
   refine t_st rfl (st_neq rfl rfl) ?_
   refine t_ne ?_
   refine c_cond _ rfl (fun hc2407 => ?_) (fun hc2407 => ?_)
   ·
    rw [if_pos (of_decide_eq_true hc2407)] at hm
    refine c_sr ?_
    refine t_mv rfl rfl ?_
    refine t_st rfl (st_eqpn rfl rfl rfl ptr24) ?_
    refine t_as rfl rfl ?_
    refine t_ne ?_
    refine c_ret ?_
    refine x_then_ret ?_
    obtain rfl := some1 hm
    exact retM (rs := [.tmp 8]) [.bool (false)] hle2392 (by decide) rfl ⟨rfl, trivial⟩ rfl (.cons _ (sub_skip hs2396 (sub_skip hs2399 (.refl _)))) ⟨rfl, rfl⟩
   ·
    rw [if_neg (of_decide_eq_false hc2407)] at hm
    refine c_skip ?_
    refine x_then_normal ?_
    obtain ⟨t3346, hj3345, hk3345⟩ := bindS hm
    refine c_join (fun b3329 e' hp' => ∃ (l3341 : (List FareBooking)), ∃ (l3343 : (List Bool)), ∃ (A3333 : Option Addr), ∃ (c3334 : Nat), ∃ (hs3332 : Hp), ∃ (A3338 : Option Addr), ∃ (c3339 : Nat), ∃ (hs3337 : Hp), [(0, .int .i64 (x1)), (1, .int .i64 (x2)), (2, .int .i64 (x3)), (9, .pointer (some ⟨g2393, 0, none⟩))] = e' ∧ (g2393, Cl 54 [.int .i64 (x2385), .int .i64 (x2386), .int .i64 (x2387), .slice A3333 (l3341).length c3334, .slice A3338 (l3343).length c3339]) :: (hs3332 ++ (hs3337 ++ R)) = hp' ∧ b2391.Le b3329 ∧ OS 32 (OT.fr rFareBooking) b3329.w (.slice A3333 l3341.length c3334) l3341 hs3332 ∧ (A3333 = none ↔ l3341 = []) ∧ OS 4 (OT.fr RT.bool) b3329.w (.slice A3338 l3343.length c3339) l3343 hs3337 ∧ (A3338 = none ↔ l3343 = []) ∧ t3346 = .inl (l3341, l3343)) ?_ ?_
    ·
     have hm := hj3345
     refine c_block ?_
     refine c_front2 [_] hs2396 hs2399 R rfl ?_
     refine c_front2 [_] hs2399 hs2396 R rfl ?_
     refine c_loopM (unc3 fun l3969 l3970 l3972 => fun b3954 e' hp' => ∃ (A3966 : Option Addr), ∃ (c3967 : Nat), ∃ (A3958 : Option Addr), ∃ (c3959 : Nat), ∃ (hs3957 : Hp), ∃ (A3963 : Option Addr), ∃ (c3964 : Nat), ∃ (hs3962 : Hp), [(0, .int .i64 (x1)), (1, .int .i64 (x2)), (2, .int .i64 (x3)), (3, .slice A3966 (l3969).length c3967), (9, .pointer (some ⟨g2393, 0, none⟩))] = e' ∧ (g2393, Cl 54 [.int .i64 (x2385), .int .i64 (x2386), .int .i64 (x2387), .slice A3958 (l3970).length c3959, .slice A3963 (l3972).length c3964]) :: (hs3957 ++ (hs3962 ++ R)) = hp' ∧ b2391.Le b3954 ∧ FZ (RT.int .i64) b3954.w A3966 c3967 l3969 ∧ OS 32 (OT.fr rFareBooking) b3954.w (.slice A3958 l3970.length c3959) l3970 hs3957 ∧ (A3958 = none ↔ l3970 = []) ∧ OS 4 (OT.fr RT.bool) b3954.w (.slice A3963 l3972.length c3964) l3972 hs3962 ∧ (A3963 = none ↔ l3972 = [])) hm (e' := [(0, .int .i64 (x1)), (1, .int .i64 (x2)), (2, .int .i64 (x3)), (3, .slice A4 (l7).length c5), (9, .pointer (some ⟨g2393, 0, none⟩))]) ⟨rfl, rfl, rfl, rfl, rfl, trivial⟩ (.refl _) ⟨A4, c5, A2394, c2395, hs2396, A2397, c2398, hs2399, rfl, rfl, (Base.Le.refl _), (h6.le hle2392), h2400, h2401, h2402, h2403⟩ ?_
     rintro ⟨l3969, l3970, l3972⟩ b3954 _ _ oL3347 ⟨A3966, c3967, A3958, c3959, hs3957, A3963, c3964, hs3962, rfl, rfl, hle3955, h3968, h3960, hnz3971, h3965, hnz3973⟩ hstepL3347 houtL3347
     unfold mFishkeep2FareOnce_L3347 at hstepL3347
     have hm := (unc3E hstepL3347)
     refine c_seq ?_
     refine c_sr ?_
     refine t_mv rfl rfl ?_
     refine t_st rfl (st_len rfl sl22) ?_
     refine t_st rfl (st_geq rfl rfl) ?_
     refine t_ne ?_
     refine c_cond _ rfl (fun hc3974 => ?_) (fun hc3974 => ?_)
     ·
      rw [if_pos (of_decide_eq_true hc3974)] at hm
      refine c_skip ?_
      refine x_then_normal ?_
      refine c_block ?_
      refine c_seq ?_
      obtain ⟨x4015, h4016, hm⟩ := bindS hm
      obtain ⟨x4025, h4026, hm⟩ := bindS hm
      obtain ⟨x4035, h4036, hm⟩ := bindS hm
      obtain ⟨x4045, h4046, hm⟩ := bindS hm
      refine D_drawI mixed (.refl _) ?_
      refine E_s0 0 rfl (st_move rfl) ?_
      obtain ⟨j4017, hj4018, hx4019⟩ := idx_some h4016
      obtain ⟨cs4020, hr4021, hcs4022, hA4023, hlt4024⟩ := FZ.get (sz := 1) rfl (by decide) h3968 hx4019
      obtain rfl := hr4021
      refine E_s0 1 rfl (st_index_old j4017 rfl rfl hj4018 hlt4024 hA4023 sl22) ?_
      refine E_st 2 rfl (st_load_old rfl one3 (hcs4022 0 _ rfl)) ?_
      refine E_s0 3 rfl (st_move rfl) ?_
      obtain ⟨j4027, hj4028, hx4029⟩ := idx_some h4026
      obtain ⟨cs4030, hr4031, hcs4032, hA4033, hlt4034⟩ := FZ.get (sz := 1) rfl (by decide) h3968 hx4029
      obtain rfl := hr4031
      refine E_s0 4 rfl (st_index_old j4027 rfl rfl hj4028 hlt4034 hA4033 sl22) ?_
      refine E_st 5 rfl (st_load_old rfl one3 (hcs4032 0 _ rfl)) ?_
      refine E_s0 6 rfl (st_move rfl) ?_
      obtain ⟨j4037, hj4038, hx4039⟩ := idx_some h4036
      obtain ⟨cs4040, hr4041, hcs4042, hA4043, hlt4044⟩ := FZ.get (sz := 1) rfl (by decide) h3968 hx4039
      obtain rfl := hr4041
      refine E_s0 7 rfl (st_index_old j4037 rfl rfl hj4038 hlt4044 hA4043 sl22) ?_
      refine E_st 8 rfl (st_load_old rfl one3 (hcs4042 0 _ rfl)) ?_
      refine E_s0 9 rfl (st_move rfl) ?_
      obtain ⟨j4047, hj4048, hx4049⟩ := idx_some h4046
      obtain ⟨cs4050, hr4051, hcs4052, hA4053, hlt4054⟩ := FZ.get (sz := 1) rfl (by decide) h3968 hx4049
      obtain rfl := hr4051
      refine E_s0 10 rfl (st_index_old j4047 rfl rfl hj4048 hlt4054 hA4053 sl22) ?_
      refine E_st 11 rfl (st_load_old rfl one3 (hcs4052 0 _ rfl)) ?_
      refine E_s0 12 rfl (st_assign rfl) ?_
      refine E_s0 13 rfl (st_assign rfl) ?_
      refine E_s0 14 rfl (st_assign rfl) ?_
      refine E_s0 15 rfl (st_assign rfl) ?_
      refine E_out ?_
      refine D_done (by kernel_rfl) ?_
      refine x_then_normal ?_
      refine c_sr ?_
      refine t_mv rfl rfl ?_
      obtain ⟨l4055, h4056, hm⟩ := bindS hm
      obtain ⟨j4057, j4058, hj4059, hj4060, hj4061, hj4062, hx4063⟩ := cutS_some h4056
      have h4064 := FZ.sub (sz := 1) rfl h3968 hj4061 hj4062
      have h4065 := h3968.1.1
      rw [← hx4063] at h4064
      refine t_st rfl (hx4063 ▸ st_part (l := l3969) j4057 j4058 rfl (.inr ⟨_, _, _, rfl, rfl, hj4059⟩) (.inl ⟨rfl, by omega⟩) hj4061 hj4062 h4065 sl22) ?_
      refine t_as rfl rfl ?_
      refine t_ne ?_
      refine c_seq ?_
      refine c_sr ?_
      refine t_mv rfl rfl ?_
      refine t_st rfl (st_eql rfl rfl) ?_
      refine t_ne ?_
      refine c_cond _ rfl (fun hc4070 => ?_) (fun hc4070 => ?_)
      ·
       rw [if_pos (of_decide_eq_true hc4070)] at hm
       refine c_sr ?_
       refine t_mv rfl rfl ?_
       refine t_mv rfl rfl ?_
       obtain ⟨⟨x4071, l4072⟩, hcl4073, hm⟩ := bindS hm
       have hm := (unc2E hm)
       refine t_front2 [_] hs3957 hs3962 R rfl ?_
       refine t_front2 [_] hs3962 hs3957 R rfl ?_
       refine t_out2 [_] [] hs3957 hs3962 R rfl ?_
       refine t_callG _ rfl call7 rfl (cFareCarCancel _ _ x4025 x2385 x2386 x2387 l3970 l3972 g2393 A3958 c3959 hs3957 A3963 c3964 hs3962 h3960 hnz3971 h3965 hnz3973 x4071 l4072 hcl4073) ?_
       rintro _ b4074 _ hle4075 ⟨hs4076, rfl, rfl, h4077, h4078, h4079⟩
       refine t_in2 [_] [] hs3957 hs4076 R rfl ?_
       refine t_hresp 0 rfl (o' := Cl 54 [.int .i64 (x2385), .int .i64 (x2386), .int .i64 (x2387), .slice A3958 (l3970).length c3959, .slice A3963 (l4072).length c3964]) (by simp only [h4078]) ?_
       refine t_ne ?_
       refine c_exit ?_
       refine x_then_exit ?_
       refine x_block_out ?_
       refine x_front2 [_] hs3957 hs4076 R rfl ?_
       refine x_front2 [_] hs4076 hs3957 R rfl ?_
       exact x_againM (l4055, l3970, l4072) (Option.some.inj hm).symm (e' := [(0, .int .i64 (x1)), (1, .int .i64 (x2)), (2, .int .i64 (x3)), (3, .slice (subA A3966 c3967 j4057 1) (l4055).length (c3967 - j4057)), (9, .pointer (some ⟨g2393, 0, none⟩))]) ⟨rfl, rfl, rfl, rfl, rfl, trivial⟩ (.refl _) ⟨(subA A3966 c3967 j4057 1), (c3967 - j4057), A3958, c3959, hs3957, A3963, c3964, hs4076, rfl, rfl, ((hle3955.trans hle4075)), (h4064.le hle4075), (h3960.le hle4075), hnz3971, h4077, h4079⟩
      ·
       rw [if_neg (of_decide_eq_false hc4070)] at hm
       refine c_skip ?_
       refine x_then_normal ?_
       refine c_sr ?_
       refine t_mv rfl rfl ?_
       refine t_mv rfl rfl ?_
       refine t_mv rfl rfl ?_
       obtain ⟨⟨x4080, l4081⟩, hcl4082, hm⟩ := bindS hm
       have hm := (unc2E hm)
       refine t_front2 [_] hs3957 hs3962 R rfl ?_
       refine t_front2 [_] hs3962 hs3957 R rfl ?_
       refine t_out2 [_] [] hs3957 hs3962 R rfl ?_
       refine t_callG _ rfl call8 rfl (cFareCarFree _ _ x4025 x4035 x2385 x2386 x2387 l3970 l3972 g2393 A3958 c3959 hs3957 A3963 c3964 hs3962 h3960 hnz3971 h3965 hnz3973 x4080 l4081 hcl4082) ?_
       rintro _ b4083 _ hle4084 ⟨A4085, c4086, hs4087, rfl, rfl, h4088⟩
       refine t_in3 [_] [] hs4087 hs3957 hs3962 R rfl ?_
       refine t_mv rfl rfl ?_
       refine t_st rfl (st_extract rfl rfl) ?_
       refine t_st rfl (st_extract rfl rfl) ?_
       refine t_as rfl rfl ?_
       refine t_as rfl rfl ?_
       refine t_ne ?_
       refine c_sr ?_
       refine t_mv rfl rfl ?_
       refine t_mv rfl rfl ?_
       refine t_mv rfl rfl ?_
       refine t_mv rfl rfl ?_
       obtain ⟨⟨x4089, x4090, x4091, x4092, l4093, l4094, l4095⟩, hcl4096, hm⟩ := bindS hm
       have hm := (unc7E hm)
       refine t_front3 [_] hs4087 hs3957 hs3962 R rfl ?_
       refine t_front3 [_] hs3962 hs4087 hs3957 R rfl ?_
       refine t_out2 [_] [] hs3957 hs3962 (hs4087 ++ R) rfl ?_
       refine t_callG _ rfl call9 rfl (cFareCarBook _ _ x4025 x4035 x4045 x2385 x2386 x2387 l3970 l3972 g2393 A3958 c3959 hs3957 A3963 c3964 hs3962 (h3960.le hle4084) hnz3971 (h3965.le hle4084) hnz3973 x4089 x4090 x4091 x4092 l4093 l4094 l4095 hcl4096) ?_
       rintro _ b4097 _ hle4098 ⟨A4099, c4100, hs4101, A4102, c4103, hs4104, A4105, c4106, hs4107, rfl, rfl, h4108, h4109, h4110, h4111, h4112⟩
       refine t_in3 [_] [] hs4101 hs4104 hs4107 (hs4087 ++ R) rfl ?_
       refine t_mv rfl rfl ?_
       refine t_st rfl (st_extract rfl rfl) ?_
       refine t_st rfl (st_extract rfl rfl) ?_
       refine t_do rfl (u_alloc [.int .i64 0, .int .i64 0, .int .i64 0, .slice none 0 0] zero32 rfl) ?_
       rintro _ _ ⟨g4113, rfl, rfl⟩
       refine t_do rfl (u_storeN (vs := [_, _, _, _]) 0 4 rfl rfl rfl siz32 rfl (mem_c rfl (mem_c rfl (mem_c rfl (mem_c rfl mem_n)))) rfl (by simp)) ?_
       rintro _ _ rfl
       refine t_as rfl rfl ?_
       refine t_ne ?_
       refine c_seq ?_
       refine c_block ?_
       obtain ⟨x4118, hj4119, hk4119⟩ := bindS hm
       refine c_join (fun b4116 e' hp' => [(0, .int .i64 (x1)), (1, .int .i64 (x2)), (2, .int .i64 (x3)), (3, .slice (subA A3966 c3967 j4057 1) (l4055).length (c3967 - j4057)), (9, .pointer (some ⟨g2393, 0, none⟩)), (14, .int .i64 (x4045)), (15, .slice A4085 (l4081).length c4086), (17, .pointer (some ⟨g4113, 0, none⟩)), (18, .int .i64 (x4092)), (79, .bool (x4118))] = e' ∧ (g2393, Cl 54 [.int .i64 (x2385), .int .i64 (x2386), .int .i64 (x2387), .slice A4102 (l4094).length c4103, .slice A4105 (l4095).length c4106]) :: (g4113, Cl 32 [.int .i64 (x4089), .int .i64 (x4090), .int .i64 (x4091), .slice A4099 (l4093).length c4100]) :: (hs4087 ++ (hs4104 ++ (hs4107 ++ (hs4101 ++ R)))) = hp' ∧ b4097.Le b4116) ?_ ?_
       ·
        have hm := hj4119
        refine c_region ?_
        refine t_mv rfl rfl ?_
        refine t_bool rfl (st_neq rfl rfl) (fun hc4120 => ?_) (fun hc4120 => ?_)
        ·
         rw [if_pos hc4120] at hm
         refine t_mv rfl rfl ?_
         refine t_no 82 rfl rfl rfl rfl rfl ?_
         refine t_no 82 rfl rfl rfl rfl rfl ?_
         refine t_st rfl (st_pick_t rfl rfl) ?_
         refine t_mv rfl rfl ?_
         refine t_no 86 rfl rfl rfl rfl rfl ?_
         refine t_no 86 rfl rfl rfl rfl rfl ?_
         refine t_st rfl (st_pick_t rfl rfl) ?_
         refine t_as rfl rfl ?_
         refine t_nil ?_
         obtain rfl := some1 hm
         refine x_pullb 1 rfl ?_
         refine x_front3 [_, _] hs4101 hs4104 hs4107 (hs4087 ++ R) rfl ?_
         refine x_front3 [_, _] hs4107 hs4101 hs4104 (hs4087 ++ R) rfl ?_
         refine x_front4 [_, _] hs4104 hs4107 hs4101 hs4087 R rfl ?_
         exact x_join (e' := [(0, .int .i64 (x1)), (1, .int .i64 (x2)), (2, .int .i64 (x3)), (3, .slice (subA A3966 c3967 j4057 1) (l4055).length (c3967 - j4057)), (9, .pointer (some ⟨g2393, 0, none⟩)), (14, .int .i64 (x4045)), (15, .slice A4085 (l4081).length c4086), (17, .pointer (some ⟨g4113, 0, none⟩)), (18, .int .i64 (x4092)), (79, .bool (true))]) ⟨rfl, rfl, rfl, rfl, rfl, rfl, rfl, rfl, rfl, rfl, trivial⟩ (.refl _) ⟨rfl, rfl, (Base.Le.refl _)⟩
        ·
         rw [if_neg hc4120] at hm
         refine t_mv rfl rfl ?_
         refine t_yes 82 rfl rfl rfl ?_
         refine t_mv rfl rfl ?_
         refine t_yes 82 rfl rfl rfl ?_
         refine t_bool rfl (st_lss rfl rfl) (fun hc4121 => ?_) (fun hc4121 => ?_)
         ·
          rw [if_pos hc4121] at hm
          refine t_st rfl (st_pick_f rfl rfl) ?_
          refine t_mv rfl rfl ?_
          refine t_no 86 rfl rfl rfl rfl rfl ?_
          refine t_no 86 rfl rfl rfl rfl rfl ?_
          refine t_st rfl (st_pick_t rfl rfl) ?_
          refine t_as rfl rfl ?_
          refine t_nil ?_
          obtain rfl := some1 hm
          refine x_pullb 1 rfl ?_
          refine x_front3 [_, _] hs4101 hs4104 hs4107 (hs4087 ++ R) rfl ?_
          refine x_front3 [_, _] hs4107 hs4101 hs4104 (hs4087 ++ R) rfl ?_
          refine x_front4 [_, _] hs4104 hs4107 hs4101 hs4087 R rfl ?_
          exact x_join (e' := [(0, .int .i64 (x1)), (1, .int .i64 (x2)), (2, .int .i64 (x3)), (3, .slice (subA A3966 c3967 j4057 1) (l4055).length (c3967 - j4057)), (9, .pointer (some ⟨g2393, 0, none⟩)), (14, .int .i64 (x4045)), (15, .slice A4085 (l4081).length c4086), (17, .pointer (some ⟨g4113, 0, none⟩)), (18, .int .i64 (x4092)), (79, .bool (true))]) ⟨rfl, rfl, rfl, rfl, rfl, rfl, rfl, rfl, rfl, rfl, trivial⟩ (.refl _) ⟨rfl, rfl, (Base.Le.refl _)⟩
         ·
          rw [if_neg hc4121] at hm
          refine t_st rfl (st_pick_f rfl rfl) ?_
          refine t_mv rfl rfl ?_
          refine t_yes 86 rfl rfl rfl ?_
          refine t_mv rfl rfl ?_
          refine t_yes 86 rfl rfl rfl ?_
          refine t_st rfl (st_gtr rfl rfl) ?_
          refine t_st rfl (st_pick_f rfl rfl) ?_
          refine t_as rfl rfl ?_
          refine t_nil ?_
          obtain rfl := some1 hm
          refine x_pullb 1 rfl ?_
          refine x_front3 [_, _] hs4101 hs4104 hs4107 (hs4087 ++ R) rfl ?_
          refine x_front3 [_, _] hs4107 hs4101 hs4104 (hs4087 ++ R) rfl ?_
          refine x_front4 [_, _] hs4104 hs4107 hs4101 hs4087 R rfl ?_
          exact x_join (e' := [(0, .int .i64 (x1)), (1, .int .i64 (x2)), (2, .int .i64 (x3)), (3, .slice (subA A3966 c3967 j4057 1) (l4055).length (c3967 - j4057)), (9, .pointer (some ⟨g2393, 0, none⟩)), (14, .int .i64 (x4045)), (15, .slice A4085 (l4081).length c4086), (17, .pointer (some ⟨g4113, 0, none⟩)), (18, .int .i64 (x4092)), (79, .bool (decide (8 < x4045)))]) ⟨rfl, rfl, rfl, rfl, rfl, rfl, rfl, rfl, rfl, rfl, trivial⟩ (.refl _) ⟨rfl, rfl, (Base.Le.refl _)⟩
       ·
        rintro b4116 _ _ ⟨rfl, rfl, hle4117⟩
        have hm := hk4119
        refine c_cond _ rfl (fun hc4122 => ?_) (fun hc4122 => ?_)
        ·
         rw [if_pos hc4122] at hm
         refine c_seq ?_
         refine c_sr ?_
         refine t_mv rfl rfl ?_
         refine t_st rfl (st_neq rfl rfl) ?_
         refine t_ne ?_
         refine c_cond _ rfl (fun hc4123 => ?_) (fun hc4123 => ?_)
         ·
          rw [if_pos (of_decide_eq_true hc4123)] at hm
          refine c_sr ?_
          refine t_as rfl rfl ?_
          refine t_ne ?_
          refine c_ret ?_
          refine x_then_ret ?_
          refine x_block_ret ?_
          refine x_then_ret ?_
          refine x_block_ret ?_
          refine x_then_ret ?_
          refine x_block_ret ?_
          refine x_then_ret ?_
          have hm := congrArg some (houtL3347 _ (Option.some.inj hm).symm)
          have hq4124 := (Option.some.inj hm).symm
          rw [hq4124] at hk3345
          have hm := elimR hk3345
          obtain rfl := some1 hm
          exact retM (rs := [.tmp 8]) [.bool (false)] (hle2392.trans (hle3955.trans (hle4084.trans (hle4098.trans hle4117)))) (by decide) rfl ⟨rfl, trivial⟩ rfl (.cons _ (.cons _ (sub_skip hs4087 (sub_skip hs4104 (sub_skip hs4107 (sub_skip hs4101 (.refl _))))))) ⟨rfl, rfl⟩
         ·
          rw [if_neg (of_decide_eq_false hc4123)] at hm
          refine c_skip ?_
          refine x_then_normal ?_
          refine c_exit ?_
          refine x_block_on rfl ?_
          refine x_then_exit ?_
          refine x_block_out ?_
          refine x_front3 [_, _] hs4087 hs4104 hs4107 (hs4101 ++ R) rfl ?_
          refine x_front3 [_, _] hs4107 hs4087 hs4104 (hs4101 ++ R) rfl ?_
          exact x_againM (l4055, l4094, l4095) (Option.some.inj hm).symm (e' := [(0, .int .i64 (x1)), (1, .int .i64 (x2)), (2, .int .i64 (x3)), (3, .slice (subA A3966 c3967 j4057 1) (l4055).length (c3967 - j4057)), (9, .pointer (some ⟨g2393, 0, none⟩))]) ⟨rfl, rfl, rfl, rfl, rfl, trivial⟩ (.cons_cons _ (.cons _ (sub_app hs4104 (sub_app hs4107 (sub_skip hs4087 (sub_skip hs4101 (.refl _))))))) ⟨(subA A3966 c3967 j4057 1), (c3967 - j4057), A4102, c4103, hs4104, A4105, c4106, hs4107, rfl, rfl, ((hle3955.trans (hle4084.trans (hle4098.trans hle4117)))), (h4064.le (hle4084.trans (hle4098.trans hle4117))), (h4109.le hle4117), h4110, (h4111.le hle4117), h4112⟩
        ·
         rw [if_neg (fun hh => Bool.noConfusion (hh.symm.trans hc4122))] at hm
         refine c_sr ?_
         refine t_mv rfl rfl ?_
         refine t_st rfl (st_len rfl sl22) ?_
         refine t_mv rfl rfl ?_
         refine t_st rfl (st_lss rfl rfl) ?_
         refine t_as rfl rfl ?_
         refine t_ne ?_
         refine c_cond _ rfl (fun hc4125 => ?_) (fun hc4125 => ?_)
         ·
          rw [if_pos (of_decide_eq_true hc4125)] at hm
          refine c_seq ?_
          refine c_sr ?_
          refine t_mv rfl rfl ?_
          refine t_st rfl (st_neq rfl rfl) ?_
          refine t_ne ?_
          refine c_cond _ rfl (fun hc4126 => ?_) (fun hc4126 => ?_)
          ·
           rw [if_pos (of_decide_eq_true hc4126)] at hm
           refine c_sr ?_
           refine t_as rfl rfl ?_
           refine t_ne ?_
           refine c_ret ?_
           refine x_then_ret ?_
           refine x_block_ret ?_
           refine x_then_ret ?_
           refine x_block_ret ?_
           refine x_then_ret ?_
           refine x_block_ret ?_
           refine x_then_ret ?_
           have hm := congrArg some (houtL3347 _ (Option.some.inj hm).symm)
           have hq4127 := (Option.some.inj hm).symm
           rw [hq4127] at hk3345
           have hm := elimR hk3345
           obtain rfl := some1 hm
           exact retM (rs := [.tmp 8]) [.bool (false)] (hle2392.trans (hle3955.trans (hle4084.trans (hle4098.trans hle4117)))) (by decide) rfl ⟨rfl, trivial⟩ rfl (.cons _ (.cons _ (sub_skip hs4087 (sub_skip hs4104 (sub_skip hs4107 (sub_skip hs4101 (.refl _))))))) ⟨rfl, rfl⟩
          ·
           rw [if_neg (of_decide_eq_false hc4126)] at hm
           refine c_skip ?_
           refine x_then_normal ?_
           refine c_exit ?_
           refine x_block_on rfl ?_
           refine x_then_exit ?_
           refine x_block_out ?_
           refine x_front3 [_, _] hs4087 hs4104 hs4107 (hs4101 ++ R) rfl ?_
           refine x_front3 [_, _] hs4107 hs4087 hs4104 (hs4101 ++ R) rfl ?_
           exact x_againM (l4055, l4094, l4095) (Option.some.inj hm).symm (e' := [(0, .int .i64 (x1)), (1, .int .i64 (x2)), (2, .int .i64 (x3)), (3, .slice (subA A3966 c3967 j4057 1) (l4055).length (c3967 - j4057)), (9, .pointer (some ⟨g2393, 0, none⟩))]) ⟨rfl, rfl, rfl, rfl, rfl, trivial⟩ (.cons_cons _ (.cons _ (sub_app hs4104 (sub_app hs4107 (sub_skip hs4087 (sub_skip hs4101 (.refl _))))))) ⟨(subA A3966 c3967 j4057 1), (c3967 - j4057), A4102, c4103, hs4104, A4105, c4106, hs4107, rfl, rfl, ((hle3955.trans (hle4084.trans (hle4098.trans hle4117)))), (h4064.le (hle4084.trans (hle4098.trans hle4117))), (h4109.le hle4117), h4110, (h4111.le hle4117), h4112⟩
         ·
          rw [if_neg (of_decide_eq_false hc4125)] at hm
          obtain ⟨x4131, hj4132, hk4132⟩ := bindS hm
          refine c_join (fun b4129 e' hp' => [(0, .int .i64 (x1)), (1, .int .i64 (x2)), (2, .int .i64 (x3)), (3, .slice (subA A3966 c3967 j4057 1) (l4055).length (c3967 - j4057)), (9, .pointer (some ⟨g2393, 0, none⟩)), (15, .slice A4085 (l4081).length c4086), (17, .pointer (some ⟨g4113, 0, none⟩)), (99, .bool (x4131))] = e' ∧ (g2393, Cl 54 [.int .i64 (x2385), .int .i64 (x2386), .int .i64 (x2387), .slice A4102 (l4094).length c4103, .slice A4105 (l4095).length c4106]) :: (g4113, Cl 32 [.int .i64 (x4089), .int .i64 (x4090), .int .i64 (x4091), .slice A4099 (l4093).length c4100]) :: (hs4087 ++ (hs4104 ++ (hs4107 ++ (hs4101 ++ R)))) = hp' ∧ b4116.Le b4129) ?_ ?_
          ·
           have hm := hj4132
           refine c_region ?_
           refine t_mv rfl rfl ?_
           refine t_bool rfl (st_neq rfl rfl) (fun hc4133 => ?_) (fun hc4133 => ?_)
           ·
            rw [if_pos hc4133] at hm
            refine t_mv rfl rfl ?_
            refine t_no 102 rfl rfl rfl rfl rfl ?_
            refine t_no 102 rfl rfl rfl rfl rfl ?_
            refine t_no 102 rfl rfl rfl rfl rfl ?_
            refine t_no 102 rfl rfl rfl rfl rfl ?_
            refine t_no 102 rfl rfl rfl rfl rfl ?_
            refine t_st rfl (st_pick_t rfl rfl) ?_
            refine t_as rfl rfl ?_
            refine t_nil ?_
            obtain rfl := some1 hm
            refine x_pullb 1 rfl ?_
            refine x_pullb 1 rfl ?_
            refine x_front4 [_, _] hs4087 hs4104 hs4107 hs4101 R rfl ?_
            refine x_front4 [_, _] hs4101 hs4087 hs4104 hs4107 R rfl ?_
            refine x_front4 [_, _] hs4107 hs4101 hs4087 hs4104 R rfl ?_
            refine x_front4 [_, _] hs4104 hs4107 hs4101 hs4087 R rfl ?_
            exact x_join (e' := [(0, .int .i64 (x1)), (1, .int .i64 (x2)), (2, .int .i64 (x3)), (3, .slice (subA A3966 c3967 j4057 1) (l4055).length (c3967 - j4057)), (9, .pointer (some ⟨g2393, 0, none⟩)), (15, .slice A4085 (l4081).length c4086), (17, .pointer (some ⟨g4113, 0, none⟩)), (99, .bool (true))]) ⟨rfl, rfl, rfl, rfl, rfl, rfl, rfl, rfl, trivial⟩ (.refl _) ⟨rfl, rfl, (Base.Le.refl _)⟩
           ·
            rw [if_neg hc4133] at hm
            refine t_mv rfl rfl ?_
            refine t_yes 102 rfl rfl rfl ?_
            refine t_st rfl (st_field rfl fld32_3) ?_
            refine t_yes 102 rfl rfl rfl ?_
            refine t_st rfl (st_load 1 rfl one22 rfl rfl) ?_
            refine t_yes 102 rfl rfl rfl ?_
            refine t_st rfl (st_len rfl sl22) ?_
            refine t_yes 102 rfl rfl rfl ?_
            refine t_mv rfl rfl ?_
            refine t_yes 102 rfl rfl rfl ?_
            refine t_st rfl (st_neq rfl rfl) ?_
            refine t_st rfl (st_pick_f rfl rfl) ?_
            refine t_as rfl rfl ?_
            refine t_nil ?_
            obtain rfl := some1 hm
            refine x_pullb 1 rfl ?_
            refine x_pullb 1 rfl ?_
            refine x_front4 [_, _] hs4087 hs4104 hs4107 hs4101 R rfl ?_
            refine x_front4 [_, _] hs4101 hs4087 hs4104 hs4107 R rfl ?_
            refine x_front4 [_, _] hs4107 hs4101 hs4087 hs4104 R rfl ?_
            refine x_front4 [_, _] hs4104 hs4107 hs4101 hs4087 R rfl ?_
            exact x_join (e' := [(0, .int .i64 (x1)), (1, .int .i64 (x2)), (2, .int .i64 (x3)), (3, .slice (subA A3966 c3967 j4057 1) (l4055).length (c3967 - j4057)), (9, .pointer (some ⟨g2393, 0, none⟩)), (15, .slice A4085 (l4081).length c4086), (17, .pointer (some ⟨g4113, 0, none⟩)), (99, .bool (decide ((l4093.length : Int) ≠ x4045)))]) ⟨rfl, rfl, rfl, rfl, rfl, rfl, rfl, rfl, trivial⟩ (.refl _) ⟨rfl, rfl, (Base.Le.refl _)⟩
          ·
           rintro b4129 _ _ ⟨rfl, rfl, hle4130⟩
           have hm := hk4132
           refine c_cond _ rfl (fun hc4134 => ?_) (fun hc4134 => ?_)
           ·
            rw [if_pos hc4134] at hm
            refine c_sr ?_
            refine t_as rfl rfl ?_
            refine t_ne ?_
            refine c_ret ?_
            refine x_block_ret ?_
            refine x_then_ret ?_
            refine x_block_ret ?_
            refine x_then_ret ?_
            refine x_block_ret ?_
            refine x_then_ret ?_
            have hm := congrArg some (houtL3347 _ (Option.some.inj hm).symm)
            have hq4135 := (Option.some.inj hm).symm
            rw [hq4135] at hk3345
            have hm := elimR hk3345
            obtain rfl := some1 hm
            exact retM (rs := [.tmp 8]) [.bool (false)] (hle2392.trans (hle3955.trans (hle4084.trans (hle4098.trans (hle4117.trans hle4130))))) (by decide) rfl ⟨rfl, trivial⟩ rfl (.cons _ (.cons _ (sub_skip hs4087 (sub_skip hs4104 (sub_skip hs4107 (sub_skip hs4101 (.refl _))))))) ⟨rfl, rfl⟩
           ·
            rw [if_neg (fun hh => Bool.noConfusion (hh.symm.trans hc4134))] at hm
            refine c_skip ?_
            refine x_block_normal ?_
            refine x_then_normal ?_
            refine c_sr ?_
            refine t_st rfl (st_field rfl fld32_3) ?_
            refine t_st rfl (st_load 1 rfl one22 rfl rfl) ?_
            refine t_st rfl (st_len rfl sl22) ?_
            refine t_mv rfl rfl ?_
            refine t_ne ?_
            refine c_block ?_
            have hb4137 : l4093.length ≤ 9223372036854775807 := (OS.len h4108)
            refine c_pullb 1 rfl ?_
            refine c_pullb 1 rfl ?_
            refine c_front3 [_, _] hs4087 hs4104 hs4107 (hs4101 ++ R) rfl ?_
            refine c_front3 [_, _] hs4107 hs4087 hs4104 (hs4101 ++ R) rfl ?_
            refine c_front4 [_, _] hs4104 hs4107 hs4087 hs4101 R rfl ?_
            refine c_front4 [_, _] hs4101 hs4104 hs4107 hs4087 R rfl ?_
            obtain ⟨t4204, hl4205, hk4206⟩ := bindS hm
            refine c_forM (fun k4203 => fun _ => fun b4201 e' hp' => [(0, .int .i64 (x1)), (1, .int .i64 (x2)), (2, .int .i64 (x3)), (3, .slice (subA A3966 c3967 j4057 1) (l4055).length (c3967 - j4057)), (9, .pointer (some ⟨g2393, 0, none⟩)), (15, .slice A4085 (l4081).length c4086), (17, .pointer (some ⟨g4113, 0, none⟩)), (110, .slice A4099 (l4093).length c4100), (111, .int .i64 ((l4093.length : Int))), (112, .int .i64 ((k4203 : Int)))] = e' ∧ (g2393, Cl 54 [.int .i64 (x2385), .int .i64 (x2386), .int .i64 (x2387), .slice A4102 (l4094).length c4103, .slice A4105 (l4095).length c4106]) :: (g4113, Cl 32 [.int .i64 (x4089), .int .i64 (x4090), .int .i64 (x4091), .slice A4099 (l4093).length c4100]) :: (hs4087 ++ (hs4101 ++ (hs4104 ++ (hs4107 ++ R)))) = hp' ∧ b4129.Le b4201) hl4205 (e' := [(0, .int .i64 (x1)), (1, .int .i64 (x2)), (2, .int .i64 (x3)), (3, .slice (subA A3966 c3967 j4057 1) (l4055).length (c3967 - j4057)), (9, .pointer (some ⟨g2393, 0, none⟩)), (15, .slice A4085 (l4081).length c4086), (17, .pointer (some ⟨g4113, 0, none⟩)), (110, .slice A4099 (l4093).length c4100), (111, .int .i64 ((l4093.length : Int))), (112, .int .i64 0)]) ⟨rfl, rfl, rfl, rfl, rfl, rfl, rfl, rfl, rfl, rfl, trivial⟩ (.refl _) ⟨rfl, rfl, (Base.Le.refl _)⟩ ?_ ?_
            ·
             rintro k4203 _ b4201 _ _ oL4136 hknL4136 ⟨rfl, rfl, hle4202⟩ hstepL4136 houtL4136
             unfold mFishkeep2FareOnce_L4136 at hstepL4136
             have hm := hstepL4136
             refine c_sr ?_
             refine t_st rfl (st_lss_t rfl rfl (by omega)) ?_
             refine t_ne ?_
             refine c_seq ?_
             refine c_cond_t rfl ?_
             refine c_skip ?_
             refine x_then_normal ?_
             refine c_seq ?_
             refine c_block ?_
             refine c_sr ?_
             refine t_mv rfl rfl ?_
             obtain ⟨x4207, h4208, hm⟩ := bindS hm
             obtain ⟨j4209, hj4210, hx4211⟩ := idx_some h4208
             obtain ⟨cs4212, hs4217, P4218, P4219, hq4220, hr4213, hcs4214, hA4215, hlt4216, hb4221, hho4222⟩ := OS.get (sz := 1) rfl (by decide) (h4108.le (hle4117.trans (hle4130.trans hle4202))) hx4211
             obtain ⟨rfl, rfl⟩ := hr4213
             refine t_st rfl (st_index_old j4209 rfl rfl hj4210 hlt4216 hA4215 sl22) ?_
             refine t_st rfl (st_load_rd rfl one3 (fun w ho => hcs4214 w _ ho (.cons _ (.cons _ (sub_skip hs4087 (List.sublist_append_left _ _)))) 0 _ rfl)) ?_
             refine t_as rfl rfl ?_
             refine t_as rfl rfl ?_
             refine t_ne ?_
             obtain ⟨x4246, hj4247, hk4247⟩ := bindS hm
             refine c_join (fun b4244 e' hp' => [(0, .int .i64 (x1)), (1, .int .i64 (x2)), (2, .int .i64 (x3)), (3, .slice (subA A3966 c3967 j4057 1) (l4055).length (c3967 - j4057)), (9, .pointer (some ⟨g2393, 0, none⟩)), (15, .slice A4085 (l4081).length c4086), (17, .pointer (some ⟨g4113, 0, none⟩)), (110, .slice A4099 (l4093).length c4100), (111, .int .i64 ((l4093.length : Int))), (112, .int .i64 ((k4203 : Int))), (134, .bool (x4246))] = e' ∧ (g2393, Cl 54 [.int .i64 (x2385), .int .i64 (x2386), .int .i64 (x2387), .slice A4102 (l4094).length c4103, .slice A4105 (l4095).length c4106]) :: (g4113, Cl 32 [.int .i64 (x4089), .int .i64 (x4090), .int .i64 (x4091), .slice A4099 (l4093).length c4100]) :: (hs4087 ++ (hs4101 ++ (hs4104 ++ (hs4107 ++ R)))) = hp' ∧ b4201.Le b4244) ?_ ?_
             ·
              have hm := hj4247
              refine c_region ?_
              refine t_mv rfl rfl ?_
              refine t_mv rfl rfl ?_
              obtain ⟨x4248, hcl4249, hm⟩ := bindS hm
              refine t_do rfl (u_callW0 _ call10 rfl (fun w ho => cSlicesContains _ [] l4081 x4207 A4085 c4086 (OS.now (o := (OT.fr (RT.int .i64))) (l := l4081) (hs := hs4087) (h4088.le (hle4098.trans (hle4117.trans (hle4130.trans hle4202)))) ho (.cons _ (.cons _ (List.sublist_append_left _ _)))) x4248 hcl4249) (fun _ _ _ h => h.2.symm)) ?_
              rintro _ _ ⟨⟨_, rfl, _⟩, rfl⟩
              rcases Bool.eq_false_or_eq_true x4248 with hc4250 | hc4250
              ·
               rw [if_pos hc4250] at hm
               refine t_resp 119 rfl (v' := .bool true) (by rw [hc4250] <;> rfl) ?_
               refine t_st rfl (st_not_t rfl) ?_
               refine t_mv rfl rfl ?_
               refine t_yes 121 rfl rfl rfl ?_
               refine t_mv rfl rfl ?_
               refine t_yes 121 rfl rfl rfl ?_
               refine t_bool rfl (st_gtr rfl rfl) (fun hc4251 => ?_) (fun hc4251 => ?_)
               ·
                rw [if_pos hc4251] at hm
                refine t_yes 121 rfl rfl rfl ?_
                refine t_mv rfl rfl ?_
                refine t_yes 124 rfl rfl rfl ?_
                refine t_mv rfl rfl ?_
                refine t_yes 124 rfl rfl rfl ?_
                refine t_st rfl (st_field rfl fld32_3) ?_
                refine t_yes 124 rfl rfl rfl ?_
                refine t_st rfl (st_load 1 rfl one22 rfl rfl) ?_
                refine t_yes 124 rfl rfl rfl ?_
                refine t_mv rfl rfl ?_
                refine t_yes 124 rfl rfl rfl ?_
                obtain ⟨_, h4252, hm⟩ := bindS hm
                have h4252 := (chk_some h4252).2
                refine t_st rfl (st_sub rfl rfl h4252) ?_
                refine t_yes 124 rfl rfl rfl ?_
                obtain ⟨x4253, h4254, hm⟩ := bindS hm
                obtain ⟨j4255, hj4256, hx4257⟩ := idx_some h4254
                obtain ⟨cs4258, hs4263, P4264, P4265, hq4266, hr4259, hcs4260, hA4261, hlt4262, hb4267, hho4268⟩ := OS.get (sz := 1) rfl (by decide) (h4108.le (hle4117.trans (hle4130.trans hle4202))) hx4257
                obtain ⟨rfl, rfl⟩ := hr4259
                refine t_st rfl (st_index_old j4255 rfl rfl hj4256 hlt4262 hA4261 sl22) ?_
                refine t_yes 124 rfl rfl rfl ?_
                refine t_st rfl (st_load_rd rfl one3 (fun w ho => hcs4260 w _ ho (.cons _ (.cons _ (sub_skip hs4087 (List.sublist_append_left _ _)))) 0 _ rfl)) ?_
                refine t_yes 124 rfl rfl rfl ?_
                refine t_st rfl (st_leq rfl rfl) ?_
                refine t_yes 121 rfl rfl rfl ?_
                refine t_st rfl (st_pick_t rfl rfl) ?_
                refine t_st rfl (st_pick_f rfl rfl) ?_
                refine t_nil ?_
                obtain rfl := some1 hm
                refine x_pullb 1 rfl ?_
                refine x_pullb 1 rfl ?_
                refine x_front4 [_, _] hs4087 hs4101 hs4104 hs4107 R rfl ?_
                refine x_front4 [_, _] hs4107 hs4087 hs4101 hs4104 R rfl ?_
                refine x_front4 [_, _] hs4104 hs4107 hs4087 hs4101 R rfl ?_
                refine x_front4 [_, _] hs4101 hs4104 hs4107 hs4087 R rfl ?_
                exact x_join (e' := [(0, .int .i64 (x1)), (1, .int .i64 (x2)), (2, .int .i64 (x3)), (3, .slice (subA A3966 c3967 j4057 1) (l4055).length (c3967 - j4057)), (9, .pointer (some ⟨g2393, 0, none⟩)), (15, .slice A4085 (l4081).length c4086), (17, .pointer (some ⟨g4113, 0, none⟩)), (110, .slice A4099 (l4093).length c4100), (111, .int .i64 ((l4093.length : Int))), (112, .int .i64 ((k4203 : Int))), (134, .bool (decide (x4207 ≤ x4253)))]) ⟨rfl, rfl, rfl, rfl, rfl, rfl, rfl, rfl, rfl, rfl, rfl, trivial⟩ (.refl _) ⟨rfl, rfl, (Base.Le.refl _)⟩
               ·
                rw [if_neg hc4251] at hm
                refine t_yes 121 rfl rfl rfl ?_
                refine t_mv rfl rfl ?_
                refine t_no 124 rfl rfl rfl rfl rfl ?_
                refine t_no 124 rfl rfl rfl rfl rfl ?_
                refine t_no 124 rfl rfl rfl rfl rfl ?_
                refine t_no 124 rfl rfl rfl rfl rfl ?_
                refine t_no 124 rfl rfl rfl rfl rfl ?_
                refine t_no 124 rfl rfl rfl rfl rfl ?_
                refine t_no 124 rfl rfl rfl rfl rfl ?_
                refine t_no 124 rfl rfl rfl rfl rfl ?_
                refine t_yes 121 rfl rfl rfl ?_
                refine t_st rfl (st_pick_f rfl rfl) ?_
                refine t_st rfl (st_pick_f rfl rfl) ?_
                refine t_nil ?_
                obtain rfl := some1 hm
                refine x_pullb 1 rfl ?_
                refine x_pullb 1 rfl ?_
                refine x_front4 [_, _] hs4087 hs4101 hs4104 hs4107 R rfl ?_
                refine x_front4 [_, _] hs4107 hs4087 hs4101 hs4104 R rfl ?_
                refine x_front4 [_, _] hs4104 hs4107 hs4087 hs4101 R rfl ?_
                refine x_front4 [_, _] hs4101 hs4104 hs4107 hs4087 R rfl ?_
                exact x_join (e' := [(0, .int .i64 (x1)), (1, .int .i64 (x2)), (2, .int .i64 (x3)), (3, .slice (subA A3966 c3967 j4057 1) (l4055).length (c3967 - j4057)), (9, .pointer (some ⟨g2393, 0, none⟩)), (15, .slice A4085 (l4081).length c4086), (17, .pointer (some ⟨g4113, 0, none⟩)), (110, .slice A4099 (l4093).length c4100), (111, .int .i64 ((l4093.length : Int))), (112, .int .i64 ((k4203 : Int))), (134, .bool (false))]) ⟨rfl, rfl, rfl, rfl, rfl, rfl, rfl, rfl, rfl, rfl, rfl, trivial⟩ (.refl _) ⟨rfl, rfl, (Base.Le.refl _)⟩
              ·
               rw [if_neg (fun hh => Bool.noConfusion (hh.symm.trans hc4250))] at hm
               refine t_resp 119 rfl (v' := .bool false) (by rw [hc4250] <;> rfl) ?_
               refine t_st rfl (st_not_f rfl) ?_
               refine t_mv rfl rfl ?_
               refine t_no 121 rfl rfl rfl rfl rfl ?_
               refine t_no 121 rfl rfl rfl rfl rfl ?_
               refine t_no 121 rfl rfl rfl rfl rfl ?_
               refine t_no 124 rfl rfl rfl rfl rfl ?_
               refine t_no 124 rfl rfl rfl rfl rfl ?_
               refine t_no 124 rfl rfl rfl rfl rfl ?_
               refine t_no 124 rfl rfl rfl rfl rfl ?_
               refine t_no 124 rfl rfl rfl rfl rfl ?_
               refine t_no 124 rfl rfl rfl rfl rfl ?_
               refine t_no 124 rfl rfl rfl rfl rfl ?_
               refine t_no 124 rfl rfl rfl rfl rfl ?_
               refine t_no 121 rfl rfl rfl rfl rfl ?_
               refine t_st rfl (st_pick_t rfl rfl) ?_
               refine t_nil ?_
               obtain rfl := some1 hm
               refine x_pullb 1 rfl ?_
               refine x_pullb 1 rfl ?_
               refine x_front4 [_, _] hs4087 hs4101 hs4104 hs4107 R rfl ?_
               refine x_front4 [_, _] hs4107 hs4087 hs4101 hs4104 R rfl ?_
               refine x_front4 [_, _] hs4104 hs4107 hs4087 hs4101 R rfl ?_
               refine x_front4 [_, _] hs4101 hs4104 hs4107 hs4087 R rfl ?_
               exact x_join (e' := [(0, .int .i64 (x1)), (1, .int .i64 (x2)), (2, .int .i64 (x3)), (3, .slice (subA A3966 c3967 j4057 1) (l4055).length (c3967 - j4057)), (9, .pointer (some ⟨g2393, 0, none⟩)), (15, .slice A4085 (l4081).length c4086), (17, .pointer (some ⟨g4113, 0, none⟩)), (110, .slice A4099 (l4093).length c4100), (111, .int .i64 ((l4093.length : Int))), (112, .int .i64 ((k4203 : Int))), (134, .bool (true))]) ⟨rfl, rfl, rfl, rfl, rfl, rfl, rfl, rfl, rfl, rfl, rfl, trivial⟩ (.refl _) ⟨rfl, rfl, (Base.Le.refl _)⟩
             ·
              rintro b4244 _ _ ⟨rfl, rfl, hle4245⟩
              have hm := hk4247
              refine c_cond _ rfl (fun hc4269 => ?_) (fun hc4269 => ?_)
              ·
               rw [if_pos hc4269] at hm
               refine c_sr ?_
               refine t_as rfl rfl ?_
               refine t_ne ?_
               refine c_ret ?_
               refine x_block_ret ?_
               refine x_then_ret ?_
               refine x_then_ret ?_
               refine x_block_ret ?_
               refine x_block_ret ?_
               refine x_then_ret ?_
               refine x_block_ret ?_
               refine x_then_ret ?_
               have hq4270 := houtL4136 _ (Option.some.inj hm).symm
               rw [hq4270] at hk4206
               have hm := elimR hk4206
               have hm := congrArg some (houtL3347 _ (Option.some.inj hm).symm)
               have hq4271 := (Option.some.inj hm).symm
               rw [hq4271] at hk3345
               have hm := elimR hk3345
               obtain rfl := some1 hm
               exact retM (rs := [.tmp 8]) [.bool (false)] (hle2392.trans (hle3955.trans (hle4084.trans (hle4098.trans (hle4117.trans (hle4130.trans (hle4202.trans hle4245))))))) (by decide) rfl ⟨rfl, trivial⟩ rfl (.cons _ (.cons _ (sub_skip hs4087 (sub_skip hs4101 (sub_skip hs4104 (sub_skip hs4107 (.refl _))))))) ⟨rfl, rfl⟩
              ·
               rw [if_neg (fun hh => Bool.noConfusion (hh.symm.trans hc4269))] at hm
               refine c_skip ?_
               refine x_block_normal ?_
               refine x_then_normal ?_
               refine c_region ?_
               refine t_st rfl (st_add rfl rfl (by omega)) ?_
               refine t_mv rfl rfl ?_
               refine t_nil ?_
               refine x_pullb 1 rfl ?_
               refine x_pullb 1 rfl ?_
               refine x_front4 [_, _] hs4087 hs4101 hs4104 hs4107 R rfl ?_
               refine x_front4 [_, _] hs4107 hs4087 hs4101 hs4104 R rfl ?_
               refine x_front4 [_, _] hs4104 hs4107 hs4087 hs4101 R rfl ?_
               refine x_front4 [_, _] hs4101 hs4104 hs4107 hs4087 R rfl ?_
               exact x_againM () (Option.some.inj hm).symm (e' := [(0, .int .i64 (x1)), (1, .int .i64 (x2)), (2, .int .i64 (x3)), (3, .slice (subA A3966 c3967 j4057 1) (l4055).length (c3967 - j4057)), (9, .pointer (some ⟨g2393, 0, none⟩)), (15, .slice A4085 (l4081).length c4086), (17, .pointer (some ⟨g4113, 0, none⟩)), (110, .slice A4099 (l4093).length c4100), (111, .int .i64 ((l4093.length : Int))), (112, .int .i64 ((k4203 : Int) + 1))]) ⟨rfl, rfl, rfl, rfl, rfl, rfl, rfl, rfl, rfl, rfl, trivial⟩ (.refl _) ⟨rfl, rfl, ((hle4202.trans hle4245))⟩
            ·
             rintro _ b4201 _ _ ⟨rfl, rfl, hle4202⟩ hq4272
             rw [hq4272] at hk4206
             have hm := elimL hk4206
             refine c_sr ?_
             refine t_st rfl (st_lss_f rfl rfl (by omega)) ?_
             refine t_ne ?_
             refine c_seq ?_
             refine c_cond_f rfl ?_
             refine c_exit ?_
             refine x_then_exit ?_
             refine x_then_exit ?_
             refine x_block_out ?_
             refine x_block_normal ?_
             refine x_front4 [_, _] hs4087 hs4101 hs4104 hs4107 R rfl ?_
             refine x_front4 [_, _] hs4107 hs4087 hs4101 hs4104 R rfl ?_
             exact x_againM (l4055, l4094, l4095) (Option.some.inj hm).symm (e' := [(0, .int .i64 (x1)), (1, .int .i64 (x2)), (2, .int .i64 (x3)), (3, .slice (subA A3966 c3967 j4057 1) (l4055).length (c3967 - j4057)), (9, .pointer (some ⟨g2393, 0, none⟩))]) ⟨rfl, rfl, rfl, rfl, rfl, trivial⟩ (.cons_cons _ (.cons _ (sub_app hs4104 (sub_app hs4107 (sub_skip hs4087 (sub_skip hs4101 (.refl _))))))) ⟨(subA A3966 c3967 j4057 1), (c3967 - j4057), A4102, c4103, hs4104, A4105, c4106, hs4107, rfl, rfl, ((hle3955.trans (hle4084.trans (hle4098.trans (hle4117.trans (hle4130.trans hle4202)))))), (h4064.le (hle4084.trans (hle4098.trans (hle4117.trans (hle4130.trans hle4202))))), (h4109.le (hle4117.trans (hle4130.trans hle4202))), h4110, (h4111.le (hle4117.trans (hle4130.trans hle4202))), h4112⟩
     ·
      rw [if_neg (of_decide_eq_false hc3974)] at hm
      refine c_exit ?_
      refine x_then_exit ?_
      refine x_then_exit ?_
      refine x_block_out ?_
      have hm := congrArg some (houtL3347 _ (Option.some.inj hm).symm)
      have hq := (Option.some.inj hm).symm
      refine x_front2 [_] hs3957 hs3962 R rfl ?_
      refine x_front2 [_] hs3962 hs3957 R rfl ?_
      exact x_join (e' := [(0, .int .i64 (x1)), (1, .int .i64 (x2)), (2, .int .i64 (x3)), (9, .pointer (some ⟨g2393, 0, none⟩))]) ⟨rfl, rfl, rfl, rfl, trivial⟩ (.refl _) ⟨l3970, l3972, A3958, c3959, hs3957, A3963, c3964, hs3962, rfl, rfl, hle3955, h3960, hnz3971, h3965, hnz3973, hq⟩
    ·
     rintro b3329 _ _ ⟨l3341, l3343, A3333, c3334, hs3332, A3338, c3339, hs3337, rfl, rfl, hle3330, h3335, hnz3342, h3340, hnz3344, hq4273⟩
     rw [hq4273] at hk3345
     have hm := elimL hk3345
     have hm := (unc2E hm)
     refine c_sr ?_
     refine t_as rfl rfl ?_
     refine t_ne ?_
     refine c_sr ?_
     refine t_mv rfl rfl ?_
     obtain ⟨l4274, hcl4275, hm⟩ := bindS hm
     refine t_front2 [_] hs3332 hs3337 R rfl ?_
     refine t_front2 [_] hs3337 hs3332 R rfl ?_
     refine t_out2 [_] [] hs3332 hs3337 R rfl ?_
     refine t_callG _ rfl call11 rfl (cFareCarBookings _ _ x2385 x2386 x2387 l3341 l3343 g2393 A3333 c3334 hs3332 A3338 c3339 hs3337 h3335 hnz3342 h3340 hnz3344 l4274 hcl4275) ?_
     rintro _ b4276 _ hle4277 ⟨A4278, c4279, hs4280, rfl, rfl, h4281⟩
     refine t_in3 [_] [] hs4280 hs3332 hs3337 R rfl ?_
     refine t_as rfl rfl ?_
     refine t_ne ?_
     refine c_seq ?_
     refine c_sr ?_
     refine t_mv rfl rfl ?_
     refine t_st rfl (st_len rfl sl37) ?_
     refine t_mv rfl rfl ?_
     refine t_ne ?_
     refine c_block ?_
     have hb4283 : l4274.length ≤ 9223372036854775807 := (OS.len h4281)
     refine c_frz [_] hs4280 (hs3332 ++ (hs3337 ++ R)) rfl ?_
     intro b4432 hle4433 hz4434
     have h4435 := OS.frz (l := l4274) h4281 hle4433.cells hz4434
     obtain ⟨t4604, hl4605, hk4606⟩ := bindS hm
     refine c_forM (fun k4603 => unc3 fun l4597 l4601 l4602 => fun b4587 e' hp' => ∃ (A4594 : Option Addr), ∃ (c4595 : Nat), ∃ (A4598 : Option Addr), ∃ (c4599 : Nat), ∃ (A4591 : Option Addr), ∃ (c4592 : Nat), ∃ (hs4590 : Hp), [(0, .int .i64 (x1)), (1, .int .i64 (x2)), (2, .int .i64 (x3)), (21, .slice A4591 (l4602).length c4592), (22, .slice A4594 (l4597).length c4595), (138, .slice A4598 (l4601).length c4599), (139, .int .i64 ((l4274.length : Int))), (140, .int .i64 ((k4603 : Int)))] = e' ∧ (hs4590 ++ R) = hp' ∧ b4432.Le b4587 ∧ FZ rFareBooking b4587.w A4594 c4595 l4597 ∧ FZ rFareBooking b4587.w A4598 c4599 l4601 ∧ OS 42 (OT.fr rFareSpan) b4587.w (.slice A4591 l4602.length c4592) l4602 hs4590) hl4605 (e' := [(0, .int .i64 (x1)), (1, .int .i64 (x2)), (2, .int .i64 (x3)), (21, .slice none 0 0), (22, .slice A4278 (l4274).length c4279), (138, .slice A4278 (l4274).length c4279), (139, .int .i64 ((l4274.length : Int))), (140, .int .i64 0)]) ⟨rfl, rfl, rfl, rfl, rfl, rfl, rfl, rfl, trivial⟩ (.cons _ (sub_skip hs3332 (sub_skip hs3337 (.refl _)))) ⟨A4278, c4279, A4278, c4279, none, 0, [], rfl, rfl, (Base.Le.refl _), h4435, h4435, OS.nil⟩ ?_ ?_
     ·
      rintro k4603 ⟨l4597, l4601, l4602⟩ b4587 _ _ oL4282 hknL4282 ⟨A4594, c4595, A4598, c4599, A4591, c4592, hs4590, rfl, rfl, hle4588, h4596, h4600, h4593⟩ hstepL4282 houtL4282
      unfold mFishkeep2FareOnce_L4282 at hstepL4282
      have hm := (unc3E hstepL4282)
      refine c_sr ?_
      refine t_st rfl (st_lss_t rfl rfl (by omega)) ?_
      refine t_ne ?_
      refine c_seq ?_
      refine c_cond_t rfl ?_
      refine c_skip ?_
      refine x_then_normal ?_
      refine c_seq ?_
      refine c_block ?_
      refine c_sr ?_
      refine t_mv rfl rfl ?_
      obtain ⟨x4607, h4608, hm⟩ := bindS hm
      obtain ⟨j4609, hj4610, hx4611⟩ := idx_some h4608
      obtain ⟨cs4612, hr4613, hcs4614, hA4615, hlt4616⟩ := FZ.get (sz := 4) rfl (by decide) h4600 hx4611
      obtain ⟨_, _, rfl, rfl, ⟨_, _, rfl, rfl, ⟨_, _, rfl, rfl, ⟨A4617, c4618, rfl, h4619⟩⟩⟩⟩ := hr4613
      refine t_st rfl (st_index_old j4609 rfl rfl hj4610 hlt4616 hA4615 sl37) ?_
      refine t_st rfl (st_loadN_old (vs := [.int .i64 (x4607.No), .int .i64 (x4607.From), .int .i64 (x4607.To), .slice A4617 (x4607.Seats).length c4618]) 4 rfl agg32 hA4615 rfl (fun j u hu => hcs4614 j u hu)) ?_
      refine t_do rfl (u_alloc [.int .i64 0, .int .i64 0, .int .i64 0, .slice none 0 0] zero32 rfl) ?_
      rintro _ _ ⟨g4620, rfl, rfl⟩
      refine t_as rfl rfl ?_
      refine t_do rfl (u_storeN (vs := [_, _, _, _]) 0 4 rfl rfl rfl siz32 rfl (mem_c rfl (mem_c rfl (mem_c rfl (mem_c rfl mem_n)))) rfl (by simp)) ?_
      rintro _ _ rfl
      refine t_ne ?_
      refine c_seq ?_
      refine c_sr ?_
      refine t_mv rfl rfl ?_
      refine t_mv rfl rfl ?_
      obtain ⟨l4621, h4622, hm⟩ := bindS hm
      obtain ⟨j4623, j4624, hj4625, hj4626, hj4627, hj4628, hx4629⟩ := cutS_some h4622
      have h4630 := FZ.sub (sz := 4) rfl h4596 hj4627 hj4628
      have h4631 := h4596.1.1
      rw [← hx4629] at h4630
      refine t_st rfl (hx4629 ▸ st_part (l := l4597) j4623 j4624 rfl (.inl ⟨rfl, by omega⟩) (.inr ⟨_, _, _, rfl, rfl, hj4626⟩) hj4627 hj4628 h4631 sl37) ?_
      refine t_st rfl (st_len rfl sl37) ?_
      refine t_mv rfl rfl ?_
      refine t_ne ?_
      refine c_block ?_
      have hb4637 : l4621.length ≤ 9223372036854775807 := (FZ.bd h4630)
      obtain ⟨t4672, hl4673, hk4674⟩ := bindS hm
      refine c_forM (fun k4671 => fun _ => fun b4669 e' hp' => [(0, .int .i64 (x1)), (1, .int .i64 (x2)), (2, .int .i64 (x3)), (21, .slice A4591 (l4602).length c4592), (22, .slice A4594 (l4597).length c4595), (24, .pointer (some ⟨g4620, 0, none⟩)), (138, .slice A4598 (l4601).length c4599), (139, .int .i64 ((l4274.length : Int))), (140, .int .i64 ((k4603 : Int))), (147, .slice (subA A4594 c4595 j4623 4) (l4621).length (c4595 - j4623)), (148, .int .i64 ((l4621.length : Int))), (149, .int .i64 ((k4671 : Int)))] = e' ∧ (g4620, Cl 32 [.int .i64 (x4607.No), .int .i64 (x4607.From), .int .i64 (x4607.To), .slice A4617 (x4607.Seats).length c4618]) :: (hs4590 ++ R) = hp' ∧ b4587.Le b4669) hl4673 (e' := [(0, .int .i64 (x1)), (1, .int .i64 (x2)), (2, .int .i64 (x3)), (21, .slice A4591 (l4602).length c4592), (22, .slice A4594 (l4597).length c4595), (24, .pointer (some ⟨g4620, 0, none⟩)), (138, .slice A4598 (l4601).length c4599), (139, .int .i64 ((l4274.length : Int))), (140, .int .i64 ((k4603 : Int))), (147, .slice (subA A4594 c4595 j4623 4) (l4621).length (c4595 - j4623)), (148, .int .i64 ((l4621.length : Int))), (149, .int .i64 0)]) ⟨rfl, rfl, rfl, rfl, rfl, rfl, rfl, rfl, rfl, rfl, rfl, rfl, trivial⟩ (.refl _) ⟨rfl, rfl, (Base.Le.refl _)⟩ ?_ ?_
      ·
       rintro k4671 _ b4669 _ _ oL4636 hknL4636 ⟨rfl, rfl, hle4670⟩ hstepL4636 houtL4636
       unfold mFishkeep2FareOnce_L4636 at hstepL4636
       have hm := hstepL4636
       refine c_sr ?_
       refine t_st rfl (st_lss_t rfl rfl (by omega)) ?_
       refine t_ne ?_
       refine c_seq ?_
       refine c_cond_t rfl ?_
       refine c_skip ?_
       refine x_then_normal ?_
       refine c_seq ?_
       refine c_block ?_
       refine c_sr ?_
       obtain ⟨x4675, h4676, hm⟩ := bindS hm
       obtain ⟨j4677, hj4678, hx4679⟩ := idx_some h4676
       obtain ⟨cs4680, hr4681, hcs4682, hA4683, hlt4684⟩ := FZ.get (sz := 4) rfl (by decide) (h4630.le hle4670) hx4679
       obtain ⟨_, _, rfl, rfl, ⟨_, _, rfl, rfl, ⟨_, _, rfl, rfl, ⟨A4685, c4686, rfl, h4687⟩⟩⟩⟩ := hr4681
       refine t_st rfl (st_index_old j4677 rfl rfl hj4678 hlt4684 hA4683 sl37) ?_
       refine t_st rfl (st_loadN_old (vs := [.int .i64 (x4675.No), .int .i64 (x4675.From), .int .i64 (x4675.To), .slice A4685 (x4675.Seats).length c4686]) 4 rfl agg32 hA4683 rfl (fun j u hu => hcs4682 j u hu)) ?_
       refine t_do rfl (u_alloc [.int .i64 0, .int .i64 0, .int .i64 0, .slice none 0 0] zero32 rfl) ?_
       rintro _ _ ⟨g4688, rfl, rfl⟩
       refine t_do rfl (u_storeN (vs := [_, _, _, _]) 0 4 rfl rfl rfl siz32 rfl (mem_c rfl (mem_c rfl (mem_c rfl (mem_c rfl mem_n)))) rfl (by simp)) ?_
       rintro _ _ rfl
       refine t_ne ?_
       obtain ⟨x4697, hj4698, hk4698⟩ := bindS hm
       refine c_join (fun b4695 e' hp' => [(0, .int .i64 (x1)), (1, .int .i64 (x2)), (2, .int .i64 (x3)), (21, .slice A4591 (l4602).length c4592), (22, .slice A4594 (l4597).length c4595), (24, .pointer (some ⟨g4620, 0, none⟩)), (138, .slice A4598 (l4601).length c4599), (139, .int .i64 ((l4274.length : Int))), (140, .int .i64 ((k4603 : Int))), (147, .slice (subA A4594 c4595 j4623 4) (l4621).length (c4595 - j4623)), (148, .int .i64 ((l4621.length : Int))), (149, .int .i64 ((k4671 : Int))), (170, .bool (x4697))] = e' ∧ (g4620, Cl 32 [.int .i64 (x4607.No), .int .i64 (x4607.From), .int .i64 (x4607.To), .slice A4617 (x4607.Seats).length c4618]) :: (hs4590 ++ R) = hp' ∧ b4669.Le b4695) ?_ ?_
       ·
        have hm := hj4698
        refine c_region ?_
        refine t_st rfl (st_field rfl fld32_1) ?_
        refine t_st rfl (st_load 1 rfl one3 rfl rfl) ?_
        refine t_st rfl (st_field rfl fld32_2) ?_
        refine t_st rfl (st_load 0 rfl one3 rfl rfl) ?_
        refine t_bool rfl (st_lss rfl rfl) (fun hc4699 => ?_) (fun hc4699 => ?_)
        ·
         rw [if_pos hc4699] at hm
         refine t_mv rfl rfl ?_
         refine t_yes 158 rfl rfl rfl ?_
         refine t_st rfl (st_field rfl fld32_1) ?_
         refine t_yes 158 rfl rfl rfl ?_
         refine t_st rfl (st_load 0 rfl one3 rfl rfl) ?_
         refine t_yes 158 rfl rfl rfl ?_
         refine t_st rfl (st_field rfl fld32_2) ?_
         refine t_yes 158 rfl rfl rfl ?_
         refine t_st rfl (st_load 1 rfl one3 rfl rfl) ?_
         refine t_yes 158 rfl rfl rfl ?_
         refine t_bool rfl (st_lss rfl rfl) (fun hc4700 => ?_) (fun hc4700 => ?_)
         ·
          rw [if_pos hc4700] at hm
          refine t_st rfl (st_pick_t rfl rfl) ?_
          refine t_mv rfl rfl ?_
          refine t_yes 165 rfl rfl rfl ?_
          refine t_st rfl (st_field rfl fld32_3) ?_
          refine t_yes 165 rfl rfl rfl ?_
          refine t_st rfl (st_load 1 rfl one22 rfl rfl) ?_
          refine t_yes 165 rfl rfl rfl ?_
          refine t_st rfl (st_func _ _ rfl rfl) ?_
          refine t_yes 165 rfl rfl rfl ?_
          obtain ⟨x4701, hcl4702, hm⟩ := bindS hm
          refine t_callG _ rfl call12 rfl (cSlicesContainsFunc_4 _ _ x4607.Seats x4675.No x4675.From x4675.To x4675.Seats g4688 A4617 c4618 A4685 c4686 (h4619.le hle4670) h4687 x4701 hcl4702) ?_
          rintro _ b4703 _ hle4704 ⟨rfl, rfl⟩
          refine t_st rfl (st_pick_t rfl rfl) ?_
          refine t_nil ?_
          obtain rfl := some1 hm
          refine x_pullb 1 rfl ?_
          exact x_join (e' := [(0, .int .i64 (x1)), (1, .int .i64 (x2)), (2, .int .i64 (x3)), (21, .slice A4591 (l4602).length c4592), (22, .slice A4594 (l4597).length c4595), (24, .pointer (some ⟨g4620, 0, none⟩)), (138, .slice A4598 (l4601).length c4599), (139, .int .i64 ((l4274.length : Int))), (140, .int .i64 ((k4603 : Int))), (147, .slice (subA A4594 c4595 j4623 4) (l4621).length (c4595 - j4623)), (148, .int .i64 ((l4621.length : Int))), (149, .int .i64 ((k4671 : Int))), (170, .bool (x4701))]) ⟨rfl, rfl, rfl, rfl, rfl, rfl, rfl, rfl, rfl, rfl, rfl, rfl, rfl, trivial⟩ (.cons_cons _ (.cons _ (.refl _))) ⟨rfl, rfl, hle4704⟩
         ·
          rw [if_neg hc4700] at hm
          refine t_st rfl (st_pick_t rfl rfl) ?_
          refine t_mv rfl rfl ?_
          refine t_no 165 rfl rfl rfl rfl rfl ?_
          refine t_no 165 rfl rfl rfl rfl rfl ?_
          refine t_no 165 rfl rfl rfl rfl rfl ?_
          refine t_no 165 rfl rfl rfl rfl rfl ?_
          refine t_st rfl (st_pick_f rfl rfl) ?_
          refine t_nil ?_
          obtain rfl := some1 hm
          refine x_pullb 1 rfl ?_
          exact x_join (e' := [(0, .int .i64 (x1)), (1, .int .i64 (x2)), (2, .int .i64 (x3)), (21, .slice A4591 (l4602).length c4592), (22, .slice A4594 (l4597).length c4595), (24, .pointer (some ⟨g4620, 0, none⟩)), (138, .slice A4598 (l4601).length c4599), (139, .int .i64 ((l4274.length : Int))), (140, .int .i64 ((k4603 : Int))), (147, .slice (subA A4594 c4595 j4623 4) (l4621).length (c4595 - j4623)), (148, .int .i64 ((l4621.length : Int))), (149, .int .i64 ((k4671 : Int))), (170, .bool (false))]) ⟨rfl, rfl, rfl, rfl, rfl, rfl, rfl, rfl, rfl, rfl, rfl, rfl, rfl, trivial⟩ (.cons_cons _ (.cons _ (.refl _))) ⟨rfl, rfl, (Base.Le.refl _)⟩
        ·
         rw [if_neg hc4699] at hm
         refine t_mv rfl rfl ?_
         refine t_no 158 rfl rfl rfl rfl rfl ?_
         refine t_no 158 rfl rfl rfl rfl rfl ?_
         refine t_no 158 rfl rfl rfl rfl rfl ?_
         refine t_no 158 rfl rfl rfl rfl rfl ?_
         refine t_no 158 rfl rfl rfl rfl rfl ?_
         refine t_st rfl (st_pick_f rfl rfl) ?_
         refine t_mv rfl rfl ?_
         refine t_no 165 rfl rfl rfl rfl rfl ?_
         refine t_no 165 rfl rfl rfl rfl rfl ?_
         refine t_no 165 rfl rfl rfl rfl rfl ?_
         refine t_no 165 rfl rfl rfl rfl rfl ?_
         refine t_st rfl (st_pick_f rfl rfl) ?_
         refine t_nil ?_
         obtain rfl := some1 hm
         refine x_pullb 1 rfl ?_
         exact x_join (e' := [(0, .int .i64 (x1)), (1, .int .i64 (x2)), (2, .int .i64 (x3)), (21, .slice A4591 (l4602).length c4592), (22, .slice A4594 (l4597).length c4595), (24, .pointer (some ⟨g4620, 0, none⟩)), (138, .slice A4598 (l4601).length c4599), (139, .int .i64 ((l4274.length : Int))), (140, .int .i64 ((k4603 : Int))), (147, .slice (subA A4594 c4595 j4623 4) (l4621).length (c4595 - j4623)), (148, .int .i64 ((l4621.length : Int))), (149, .int .i64 ((k4671 : Int))), (170, .bool (false))]) ⟨rfl, rfl, rfl, rfl, rfl, rfl, rfl, rfl, rfl, rfl, rfl, rfl, rfl, trivial⟩ (.cons_cons _ (.cons _ (.refl _))) ⟨rfl, rfl, (Base.Le.refl _)⟩
       ·
        rintro b4695 _ _ ⟨rfl, rfl, hle4696⟩
        have hm := hk4698
        refine c_cond _ rfl (fun hc4705 => ?_) (fun hc4705 => ?_)
        ·
         rw [if_pos hc4705] at hm
         refine c_sr ?_
         refine t_as rfl rfl ?_
         refine t_ne ?_
         refine c_ret ?_
         refine x_block_ret ?_
         refine x_then_ret ?_
         refine x_then_ret ?_
         refine x_block_ret ?_
         refine x_then_ret ?_
         refine x_block_ret ?_
         refine x_then_ret ?_
         refine x_then_ret ?_
         refine x_block_ret ?_
         refine x_then_ret ?_
         have hq4706 := houtL4636 _ (Option.some.inj hm).symm
         rw [hq4706] at hk4674
         have hm := elimR hk4674
         have hq4707 := houtL4282 _ (Option.some.inj hm).symm
         rw [hq4707] at hk4606
         have hm := elimR hk4606
         obtain rfl := some1 hm
         exact retM (rs := [.tmp 8]) [.bool (false)] (hle2392.trans (hle3330.trans (hle4277.trans (hle4433.trans (hle4588.trans (hle4670.trans hle4696)))))) (by decide) rfl ⟨rfl, trivial⟩ rfl (.cons _ (sub_skip hs4590 (.refl _))) ⟨rfl, rfl⟩
        ·
         rw [if_neg (fun hh => Bool.noConfusion (hh.symm.trans hc4705))] at hm
         refine c_skip ?_
         refine x_block_normal ?_
         refine x_then_normal ?_
         refine c_region ?_
         refine t_st rfl (st_add rfl rfl (by omega)) ?_
         refine t_mv rfl rfl ?_
         refine t_nil ?_
         exact x_againM () (Option.some.inj hm).symm (e' := [(0, .int .i64 (x1)), (1, .int .i64 (x2)), (2, .int .i64 (x3)), (21, .slice A4591 (l4602).length c4592), (22, .slice A4594 (l4597).length c4595), (24, .pointer (some ⟨g4620, 0, none⟩)), (138, .slice A4598 (l4601).length c4599), (139, .int .i64 ((l4274.length : Int))), (140, .int .i64 ((k4603 : Int))), (147, .slice (subA A4594 c4595 j4623 4) (l4621).length (c4595 - j4623)), (148, .int .i64 ((l4621.length : Int))), (149, .int .i64 ((k4671 : Int) + 1))]) ⟨rfl, rfl, rfl, rfl, rfl, rfl, rfl, rfl, rfl, rfl, rfl, rfl, trivial⟩ (.refl _) ⟨rfl, rfl, ((hle4670.trans hle4696))⟩
      ·
       rintro _ b4669 _ _ ⟨rfl, rfl, hle4670⟩ hq4708
       rw [hq4708] at hk4674
       have hm := elimL hk4674
       refine c_sr ?_
       refine t_st rfl (st_lss_f rfl rfl (by omega)) ?_
       refine t_ne ?_
       refine c_seq ?_
       refine c_cond_f rfl ?_
       refine c_exit ?_
       refine x_then_exit ?_
       refine x_then_exit ?_
       refine x_block_out ?_
       refine x_then_normal ?_
       refine c_sr ?_
       refine t_st rfl (st_field rfl fld32_3) ?_
       refine t_st rfl (st_load 0 rfl one22 rfl rfl) ?_
       refine t_st rfl (st_len rfl sl22) ?_
       refine t_mv rfl rfl ?_
       refine t_ne ?_
       refine c_block ?_
       have hb4710 : x4607.Seats.length ≤ 9223372036854775807 := (FZ.bd (h4619.le hle4670))
       obtain ⟨l4736, hl4738, hk4739⟩ := bindS hm
       refine c_forS (fun k4737 => fun l4736 => fun b4729 e' hp' => ∃ (A4733 : Option Addr), ∃ (c4734 : Nat), ∃ (hs4732 : Hp), [(0, .int .i64 (x1)), (1, .int .i64 (x2)), (2, .int .i64 (x3)), (21, .slice A4733 (l4736).length c4734), (22, .slice A4594 (l4597).length c4595), (24, .pointer (some ⟨g4620, 0, none⟩)), (138, .slice A4598 (l4601).length c4599), (139, .int .i64 ((l4274.length : Int))), (140, .int .i64 ((k4603 : Int))), (174, .int .i64 ((x4607.Seats.length : Int))), (175, .int .i64 ((k4737 : Int)))] = e' ∧ (g4620, Cl 32 [.int .i64 (x4607.No), .int .i64 (x4607.From), .int .i64 (x4607.To), .slice A4617 (x4607.Seats).length c4618]) :: (hs4732 ++ R) = hp' ∧ b4669.Le b4729 ∧ OS 42 (OT.fr rFareSpan) b4729.w (.slice A4733 l4736.length c4734) l4736 hs4732) hl4738 (e' := [(0, .int .i64 (x1)), (1, .int .i64 (x2)), (2, .int .i64 (x3)), (21, .slice A4591 (l4602).length c4592), (22, .slice A4594 (l4597).length c4595), (24, .pointer (some ⟨g4620, 0, none⟩)), (138, .slice A4598 (l4601).length c4599), (139, .int .i64 ((l4274.length : Int))), (140, .int .i64 ((k4603 : Int))), (174, .int .i64 ((x4607.Seats.length : Int))), (175, .int .i64 0)]) ⟨rfl, rfl, rfl, rfl, rfl, rfl, rfl, rfl, rfl, rfl, rfl, trivial⟩ (.refl _) ⟨A4591, c4592, hs4590, rfl, rfl, (Base.Le.refl _), (h4593.le hle4670)⟩ ?_ ?_
       ·
        rintro k4737 l4736 b4729 _ _ oL4709 hknL4709 ⟨A4733, c4734, hs4732, rfl, rfl, hle4730, h4735⟩ hstepL4709
        unfold mFishkeep2FareOnce_L4709 at hstepL4709
        have hm := hstepL4709
        refine c_sr ?_
        refine t_st rfl (st_lss_t rfl rfl (by omega)) ?_
        refine t_ne ?_
        refine c_seq ?_
        refine c_cond_t rfl ?_
        refine c_skip ?_
        refine x_then_normal ?_
        refine c_seq ?_
        refine c_block ?_
        refine c_region ?_
        refine t_mv rfl rfl ?_
        refine t_st rfl (st_field rfl fld32_1) ?_
        refine t_st rfl (st_load 0 rfl one3 rfl rfl) ?_
        refine t_st rfl (st_field rfl fld32_2) ?_
        refine t_st rfl (st_load 0 rfl one3 rfl rfl) ?_
        refine t_st rfl (st_build (v := .agg #[.int .i64 (x4607.From), .int .i64 (x4607.To)]) [(0, .int .i64 (x4607.From)), (1, .int .i64 (x4607.To))] rfl (fun _ => by kernel_rfl)) ?_
        refine t_do rfl (u_bslice (el := 42) [(0, .agg #[.int .i64 (x4607.From), .int .i64 (x4607.To)])] [.int .i64 (x4607.From), .int .i64 (x4607.To)] rfl (fun _ => by kernel_rfl)) ?_
        rintro _ _ ⟨g4740, rfl, rfl⟩
        obtain ⟨_, h4741, hm⟩ := bindS hm
        have h4741 := room_some h4741
        refine t_do rfl (u_appOS (r := rFareSpan) (l := l4736) [_, _] R [[.int .i64 (x4607.From), .int .i64 (x4607.To)]] [(⟨x4607.From, x4607.To⟩ : FareSpan)] rfl (by decide) sl36 inf42 rfl rfl rfl rfl h4735 rfl (fun w ho => Rd.own (i := 0) ho rfl) ⟨⟨[.int .i64 (x4607.From)], _, rfl, rfl, rfl⟩, trivial⟩ h4741) ?_
        rintro _ _ ⟨hs4742, rfl, h4743⟩
        obtain ⟨A4744, c4745, rfl, _⟩ := h4743.form
        refine t_as rfl rfl ?_
        refine t_nil ?_
        refine x_block_normal ?_
        refine x_then_normal ?_
        refine c_region ?_
        refine t_st rfl (st_add rfl rfl (by omega)) ?_
        refine t_mv rfl rfl ?_
        refine t_nil ?_
        refine x_pullb 1 rfl ?_
        obtain rfl := some1 hm
        exact x_againS (e' := [(0, .int .i64 (x1)), (1, .int .i64 (x2)), (2, .int .i64 (x3)), (21, .slice A4744 (l4736 ++ [(⟨x4607.From, x4607.To⟩ : FareSpan)]).length c4745), (22, .slice A4594 (l4597).length c4595), (24, .pointer (some ⟨g4620, 0, none⟩)), (138, .slice A4598 (l4601).length c4599), (139, .int .i64 ((l4274.length : Int))), (140, .int .i64 ((k4603 : Int))), (174, .int .i64 ((x4607.Seats.length : Int))), (175, .int .i64 ((k4737 : Int) + 1))]) ⟨rfl, rfl, rfl, rfl, rfl, rfl, rfl, rfl, rfl, rfl, rfl, trivial⟩ (.cons_cons _ (.cons _ (.refl _))) ⟨A4744, c4745, hs4742, rfl, rfl, (hle4730), h4743⟩
       ·
        rintro b4729 _ _ ⟨A4733, c4734, hs4732, rfl, rfl, hle4730, h4735⟩
        have hm := hk4739
        refine c_sr ?_
        refine t_st rfl (st_lss_f rfl rfl (by omega)) ?_
        refine t_ne ?_
        refine c_seq ?_
        refine c_cond_f rfl ?_
        refine c_exit ?_
        refine x_then_exit ?_
        refine x_then_exit ?_
        refine x_block_out ?_
        refine x_block_normal ?_
        refine x_then_normal ?_
        refine c_region ?_
        refine t_st rfl (st_add rfl rfl (by omega)) ?_
        refine t_mv rfl rfl ?_
        refine t_nil ?_
        exact x_againM (l4597, l4601, l4736) (Option.some.inj hm).symm (e' := [(0, .int .i64 (x1)), (1, .int .i64 (x2)), (2, .int .i64 (x3)), (21, .slice A4733 (l4736).length c4734), (22, .slice A4594 (l4597).length c4595), (138, .slice A4598 (l4601).length c4599), (139, .int .i64 ((l4274.length : Int))), (140, .int .i64 ((k4603 : Int) + 1))]) ⟨rfl, rfl, rfl, rfl, rfl, rfl, rfl, rfl, trivial⟩ (.cons _ (.refl _)) ⟨A4594, c4595, A4598, c4599, A4733, c4734, hs4732, rfl, rfl, ((hle4588.trans (hle4670.trans hle4730))), (h4596.le (hle4670.trans hle4730)), (h4600.le (hle4670.trans hle4730)), h4735⟩
     ·
      rintro ⟨l4597, l4601, l4602⟩ b4587 _ _ ⟨A4594, c4595, A4598, c4599, A4591, c4592, hs4590, rfl, rfl, hle4588, h4596, h4600, h4593⟩ hq4746
      rw [hq4746] at hk4606
      have hm := elimL hk4606
      have hm := (unc3E hm)
      refine c_sr ?_
      refine t_st rfl (st_lss_f rfl rfl (by omega)) ?_
      refine t_ne ?_
      refine c_seq ?_
      refine c_cond_f rfl ?_
      refine c_exit ?_
      refine x_then_exit ?_
      refine x_then_exit ?_
      refine x_block_out ?_
      refine x_then_normal ?_
      refine c_seq ?_
      refine c_sr ?_
      refine t_mv rfl rfl ?_
      refine t_st rfl (st_len rfl sl36) ?_
      refine t_st rfl (st_gtr rfl rfl) ?_
      refine t_ne ?_
      refine c_cond _ rfl (fun hc4747 => ?_) (fun hc4747 => ?_)
      ·
       rw [if_pos (of_decide_eq_true hc4747)] at hm
       refine c_sr ?_
       refine t_as rfl rfl ?_
       refine t_ne ?_
       refine c_ret ?_
       refine x_then_ret ?_
       obtain rfl := some1 hm
       exact retM (rs := [.tmp 8]) [.bool (true)] (hle2392.trans (hle3330.trans (hle4277.trans (hle4433.trans hle4588)))) (by decide) rfl ⟨rfl, trivial⟩ rfl (sub_skip hs4590 (.refl _)) ⟨rfl, rfl⟩
      ·
       rw [if_neg (of_decide_eq_false hc4747)] at hm
       refine c_skip ?_
       refine x_then_normal ?_
       refine c_sr ?_
       refine t_mv rfl rfl ?_
       refine t_mv rfl rfl ?_
       refine t_mv rfl rfl ?_
       obtain ⟨_, h4748, hm⟩ := bindS hm
       have h4748 := (chk_some h4748).2
       refine t_st rfl (st_mul rfl rfl h4748) ?_
       refine t_mv rfl rfl ?_
       obtain ⟨⟨x4749, l4750⟩, hcl4751, hm⟩ := bindS hm
       have hm := (unc2E hm)
       refine t_do rfl (u_callWF [] (hs4590 ++ R) _ rfl call14 rfl (fun w ho => cFarePack _ [] l4602 (x1 * x2) x3 A4591 c4592 (OS.now (o := (OT.fr rFareSpan)) (l := l4602) (hs := hs4590) h4593 ho (List.sublist_append_left _ _)) x4749 l4750 hcl4751)) ?_
       rintro _ _ ⟨_, _, rfl, A4752, c4753, hs4754, rfl, hq4757, h4755⟩
       obtain rfl := List.append_cancel_right hq4757
       have h4756 := flat_fz (w' := b4587.w) (fun _ _ _ _ h => h) h4755
       refine t_mv rfl rfl ?_
       refine t_st rfl (st_extract rfl rfl) ?_
       refine t_st rfl (st_extract rfl rfl) ?_
       refine t_as rfl rfl ?_
       refine t_ne ?_
       refine c_sr ?_
       refine t_mv rfl rfl ?_
       refine t_st rfl (st_eql rfl rfl) ?_
       refine t_as rfl rfl ?_
       refine t_ne ?_
       refine c_ret ?_
       obtain rfl := some1 hm
       exact retM (rs := [.tmp 8]) [.bool (decide (x4749 = 0))] (hle2392.trans (hle3330.trans (hle4277.trans (hle4433.trans hle4588)))) (by decide) rfl ⟨rfl, trivial⟩ rfl (sub_skip hs4754 (sub_skip hs4590 (.refl _))) ⟨rfl, rfl⟩

end Go.Proofs.YthcgoaejnpelbaaGreatDoor
