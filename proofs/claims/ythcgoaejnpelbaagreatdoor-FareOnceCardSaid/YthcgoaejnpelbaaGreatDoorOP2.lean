/- Contracts: the code computes its model (part 2). -/
import Derived.Test.YthcgoaejnpelbaaGreatDoorOP1
set_option linter.unusedVariables false
set_option linter.unusedSimpArgs false
namespace Go.Proofs.YthcgoaejnpelbaaGreatDoor
open Go.RowKit Go.Fp

set_option maxRecDepth 20000 in
theorem cFareCondHolds : ∀ (N : Nat) (b : Base) (R : Hp) (s1 : FareCond) (s2 : FareTrip) (A3 : Option Addr) (c4 : Nat) (h5 : FZ (RT.int .i64) b.w A3 c4 s2.Zones) (x203 : Bool) (hm : mFareCondHolds N s1 s2 = some x203),
    CallsG Tryz.prog 53 [.agg #[.int .i64 (s1.Kind), .int .i64 (s1.A), .int .i64 (s1.B), .slice none 0 0], .agg #[.int .i64 (s2.Day), .int .i64 (s2.At), .int .i64 (s2.Km), .int .i64 (s2.Age), .bool (s2.Card), .slice A3 (s2.Zones).length c4]] b (R) (fun v b' hp' => .bool (x203) = v ∧ R = hp') := by
  intro N
  induction N with
  | zero =>
    intro b R s1 s2 A3 c4 h5 x203 hm
    unfold mFareCondHolds at hm
    cases hm
  | succ N ih =>
    intro b R s1 s2 A3 c4 h5 x203 hm
    refine fn_enterG 89 Tryz.func53 rfl Tryz.ntmps53 rfl ?_
    unfold mFareCondHolds at hm
    refine c_sr ?_
    refine t_do rfl (u_box _ rfl rfl) ?_
    rintro _ _ ⟨g204, rfl, rfl⟩
    refine t_do rfl (u_box _ rfl rfl) ?_
    rintro _ _ ⟨g205, rfl, rfl⟩
    refine t_as rfl rfl ?_
    refine t_ne ?_
    refine c_sr ?_
    refine t_st rfl (st_func _ _ rfl rfl) ?_
    refine t_as rfl rfl ?_
    refine t_ne ?_
    refine c_seq ?_
    refine c_sr ?_
    refine t_st rfl (st_field rfl fld59_0) ?_
    refine t_st rfl (st_load 1 rfl one3 rfl rfl) ?_
    refine t_ne ?_
    refine c_block ?_
    refine c_sr ?_
    refine t_st rfl (st_eql rfl rfl) ?_
    refine t_as rfl rfl ?_
    refine t_ne ?_
    refine c_cond _ rfl (fun hc206 => ?_) (fun hc206 => ?_)
    ·
     rw [if_pos (of_decide_eq_true hc206)] at hm
     refine c_sr ?_
     refine t_st rfl (st_field rfl fld65_4) ?_
     refine t_st rfl (st_load 0 rfl one4 rfl rfl) ?_
     refine t_as rfl rfl ?_
     refine t_ne ?_
     refine c_ret ?_
     refine x_block_ret ?_
     refine x_then_ret ?_
     obtain rfl := some1 hm
     exact retM (rs := [.tmp 4]) [.bool (s2.Card)] (Base.Le.refl _) (by decide) rfl ⟨rfl, trivial⟩ rfl (.cons _ (.cons _ (.refl _))) ⟨rfl, rfl⟩
    ·
     rw [if_neg (of_decide_eq_false hc206)] at hm
     refine c_sr ?_
     refine t_st rfl (st_eql rfl rfl) ?_
     refine t_as rfl rfl ?_
     refine t_ne ?_
     refine c_cond _ rfl (fun hc207 => ?_) (fun hc207 => ?_)
     ·
      rw [if_pos (of_decide_eq_true hc207)] at hm
      refine c_sr ?_
      refine t_mv rfl rfl ?_
      refine t_st rfl (st_field rfl fld65_3) ?_
      refine t_st rfl (st_load 0 rfl one3 rfl rfl) ?_
      obtain ⟨x208, hcl209, hm⟩ := bindS hm
      refine t_pullb 1 rfl ?_
      refine t_callvG #[] #[.pointer (some ⟨g204, 0, none⟩)] [.int .i64 (s2.Age)] rfl rfl call72 rfl (cFareCondHolds_1 _ _ s2.Age s1.Kind s1.A s1.B [] g204 none 0 [] OS.nil ⟨fun _ => rfl, fun _ => rfl⟩ x208 hcl209) ?_
      rintro _ b210 _ hle211 ⟨rfl, rfl⟩
      refine t_as rfl rfl ?_
      refine t_ne ?_
      refine c_ret ?_
      refine x_block_ret ?_
      refine x_then_ret ?_
      obtain rfl := some1 hm
      exact retM (rs := [.tmp 4]) [.bool (x208)] hle211 (by decide) rfl ⟨rfl, trivial⟩ rfl (.cons _ (.cons _ (.refl _))) ⟨rfl, rfl⟩
     ·
      rw [if_neg (of_decide_eq_false hc207)] at hm
      refine c_sr ?_
      refine t_st rfl (st_eql rfl rfl) ?_
      refine t_as rfl rfl ?_
      refine t_ne ?_
      refine c_cond _ rfl (fun hc212 => ?_) (fun hc212 => ?_)
      ·
       rw [if_pos (of_decide_eq_true hc212)] at hm
       refine c_sr ?_
       refine t_mv rfl rfl ?_
       refine t_st rfl (st_field rfl fld65_1) ?_
       refine t_st rfl (st_load 0 rfl one3 rfl rfl) ?_
       obtain ⟨x213, hcl214, hm⟩ := bindS hm
       refine t_pullb 1 rfl ?_
       refine t_callvG #[] #[.pointer (some ⟨g204, 0, none⟩)] [.int .i64 (s2.At)] rfl rfl call72 rfl (cFareCondHolds_1 _ _ s2.At s1.Kind s1.A s1.B [] g204 none 0 [] OS.nil ⟨fun _ => rfl, fun _ => rfl⟩ x213 hcl214) ?_
       rintro _ b215 _ hle216 ⟨rfl, rfl⟩
       refine t_as rfl rfl ?_
       refine t_ne ?_
       refine c_ret ?_
       refine x_block_ret ?_
       refine x_then_ret ?_
       obtain rfl := some1 hm
       exact retM (rs := [.tmp 4]) [.bool (x213)] hle216 (by decide) rfl ⟨rfl, trivial⟩ rfl (.cons _ (.cons _ (.refl _))) ⟨rfl, rfl⟩
      ·
       rw [if_neg (of_decide_eq_false hc212)] at hm
       refine c_sr ?_
       refine t_st rfl (st_eql rfl rfl) ?_
       refine t_as rfl rfl ?_
       refine t_ne ?_
       refine c_cond _ rfl (fun hc217 => ?_) (fun hc217 => ?_)
       ·
        rw [if_pos (of_decide_eq_true hc217)] at hm
        refine c_sr ?_
        refine t_mv rfl rfl ?_
        refine t_st rfl (st_field rfl fld65_2) ?_
        refine t_st rfl (st_load 0 rfl one3 rfl rfl) ?_
        obtain ⟨x218, hcl219, hm⟩ := bindS hm
        refine t_pullb 1 rfl ?_
        refine t_callvG #[] #[.pointer (some ⟨g204, 0, none⟩)] [.int .i64 (s2.Km)] rfl rfl call72 rfl (cFareCondHolds_1 _ _ s2.Km s1.Kind s1.A s1.B [] g204 none 0 [] OS.nil ⟨fun _ => rfl, fun _ => rfl⟩ x218 hcl219) ?_
        rintro _ b220 _ hle221 ⟨rfl, rfl⟩
        refine t_as rfl rfl ?_
        refine t_ne ?_
        refine c_ret ?_
        refine x_block_ret ?_
        refine x_then_ret ?_
        obtain rfl := some1 hm
        exact retM (rs := [.tmp 4]) [.bool (x218)] hle221 (by decide) rfl ⟨rfl, trivial⟩ rfl (.cons _ (.cons _ (.refl _))) ⟨rfl, rfl⟩
       ·
        rw [if_neg (of_decide_eq_false hc217)] at hm
        refine c_sr ?_
        refine t_st rfl (st_eql rfl rfl) ?_
        refine t_as rfl rfl ?_
        refine t_ne ?_
        refine c_cond _ rfl (fun hc222 => ?_) (fun hc222 => ?_)
        ·
         rw [if_pos (of_decide_eq_true hc222)] at hm
         refine c_sr ?_
         refine t_mv rfl rfl ?_
         refine t_st rfl (st_field rfl fld65_5) ?_
         refine t_st rfl (st_load 0 rfl one22 rfl rfl) ?_
         refine t_st rfl (st_len rfl sl22) ?_
         obtain ⟨x223, hcl224, hm⟩ := bindS hm
         refine t_pullb 1 rfl ?_
         refine t_callvG #[] #[.pointer (some ⟨g204, 0, none⟩)] [.int .i64 ((s2.Zones.length : Int))] rfl rfl call72 rfl (cFareCondHolds_1 _ _ (s2.Zones.length : Int) s1.Kind s1.A s1.B [] g204 none 0 [] OS.nil ⟨fun _ => rfl, fun _ => rfl⟩ x223 hcl224) ?_
         rintro _ b225 _ hle226 ⟨rfl, rfl⟩
         refine t_as rfl rfl ?_
         refine t_ne ?_
         refine c_ret ?_
         refine x_block_ret ?_
         refine x_then_ret ?_
         obtain rfl := some1 hm
         exact retM (rs := [.tmp 4]) [.bool (x223)] hle226 (by decide) rfl ⟨rfl, trivial⟩ rfl (.cons _ (.cons _ (.refl _))) ⟨rfl, rfl⟩
        ·
         rw [if_neg (of_decide_eq_false hc222)] at hm
         refine c_sr ?_
         refine t_st rfl (st_eql rfl rfl) ?_
         refine t_as rfl rfl ?_
         refine t_ne ?_
         refine c_cond _ rfl (fun hc227 => ?_) (fun hc227 => ?_)
         ·
          rw [if_pos (of_decide_eq_true hc227)] at hm
          refine c_sr ?_
          refine t_st rfl (st_field rfl fld65_5) ?_
          refine t_st rfl (st_load 0 rfl one22 rfl rfl) ?_
          refine t_st rfl (st_field rfl fld59_1) ?_
          refine t_st rfl (st_load 1 rfl one3 rfl rfl) ?_
          obtain ⟨x228, hcl229, hm⟩ := bindS hm
          refine t_do rfl (u_callW0 _ call10 rfl (fun w ho => cSlicesContains _ [] s2.Zones s1.A A3 c4 (h5.old ho) x228 hcl229) (fun _ _ _ h => h.2.symm)) ?_
          rintro _ _ ⟨⟨_, rfl, _⟩, rfl⟩
          refine t_as rfl rfl ?_
          refine t_ne ?_
          refine c_ret ?_
          refine x_block_ret ?_
          refine x_then_ret ?_
          obtain rfl := some1 hm
          exact retM (rs := [.tmp 4]) [.bool (x228)] (Base.Le.refl _) (by decide) rfl ⟨rfl, trivial⟩ rfl (.cons _ (.cons _ (.refl _))) ⟨rfl, rfl⟩
         ·
          rw [if_neg (of_decide_eq_false hc227)] at hm
          refine c_sr ?_
          refine t_st rfl (st_eql rfl rfl) ?_
          refine t_as rfl rfl ?_
          refine t_ne ?_
          refine c_cond _ rfl (fun hc230 => ?_) (fun hc230 => ?_)
          ·
           rw [if_pos (of_decide_eq_true hc230)] at hm
           refine c_seq ?_
           obtain ⟨x241, h242, hm⟩ := bindS hm
           refine D_drawI mixed (.refl _) ?_
           refine E_s0 0 rfl (st_field rfl fld65_5) ?_
           refine E_st 1 rfl (st_load 0 rfl one22 rfl rfl) ?_
           obtain ⟨j243, hj244, hx245⟩ := idx_some h242
           obtain ⟨cs246, hr247, hcs248, hA249, hlt250⟩ := FZ.get (sz := 1) rfl (by decide) h5 hx245
           obtain rfl := hr247
           refine E_s0 2 rfl (st_index_old j243 rfl rfl hj244 hlt250 hA249 sl22) ?_
           refine E_st 3 rfl (st_load_old rfl one3 (hcs248 0 _ rfl)) ?_
           refine E_s0 4 rfl (st_field rfl fld59_1) ?_
           refine E_st 5 rfl (st_load 1 rfl one3 rfl rfl) ?_
           refine E_s0 6 rfl (st_eql rfl rfl) ?_
           refine E_s0 7 rfl (st_assign rfl) ?_
           refine E_out ?_
           refine D_done (by kernel_rfl) ?_
           refine x_then_normal ?_
           refine c_ret ?_
           refine x_block_ret ?_
           refine x_then_ret ?_
           obtain rfl := some1 hm
           exact retM (rs := [.tmp 4]) [.bool (decide (x241 = s1.A))] (Base.Le.refl _) (by decide) rfl ⟨rfl, trivial⟩ rfl (.cons _ (.cons _ (.refl _))) ⟨rfl, rfl⟩
          ·
           rw [if_neg (of_decide_eq_false hc230)] at hm
           refine c_sr ?_
           refine t_st rfl (st_eql rfl rfl) ?_
           refine t_as rfl rfl ?_
           refine t_ne ?_
           refine c_cond _ rfl (fun hc251 => ?_) (fun hc251 => ?_)
           ·
            rw [if_pos (of_decide_eq_true hc251)] at hm
            refine c_seq ?_
            obtain ⟨_, h263, hm⟩ := bindS hm
            obtain ⟨x264, h265, hm⟩ := bindS hm
            refine D_drawI mixed (.refl _) ?_
            refine E_s0 0 rfl (st_field rfl fld65_5) ?_
            refine E_st 1 rfl (st_load 0 rfl one22 rfl rfl) ?_
            refine E_s0 2 rfl (st_field rfl fld65_5) ?_
            refine E_st 3 rfl (st_load 0 rfl one22 rfl rfl) ?_
            refine E_s0 4 rfl (st_len rfl sl22) ?_
            have h263 := (chk_some h263).2
            refine E_s0 5 rfl (st_sub rfl rfl h263) ?_
            obtain ⟨j266, hj267, hx268⟩ := idx_some h265
            obtain ⟨cs269, hr270, hcs271, hA272, hlt273⟩ := FZ.get (sz := 1) rfl (by decide) h5 hx268
            obtain rfl := hr270
            refine E_s0 6 rfl (st_index_old j266 rfl rfl hj267 hlt273 hA272 sl22) ?_
            refine E_st 7 rfl (st_load_old rfl one3 (hcs271 0 _ rfl)) ?_
            refine E_s0 8 rfl (st_field rfl fld59_1) ?_
            refine E_st 9 rfl (st_load 1 rfl one3 rfl rfl) ?_
            refine E_s0 10 rfl (st_eql rfl rfl) ?_
            refine E_s0 11 rfl (st_assign rfl) ?_
            refine E_out ?_
            refine D_done (by kernel_rfl) ?_
            refine x_then_normal ?_
            refine c_ret ?_
            refine x_block_ret ?_
            refine x_then_ret ?_
            obtain rfl := some1 hm
            exact retM (rs := [.tmp 4]) [.bool (decide (x264 = s1.A))] (Base.Le.refl _) (by decide) rfl ⟨rfl, trivial⟩ rfl (.cons _ (.cons _ (.refl _))) ⟨rfl, rfl⟩
           ·
            rw [if_neg (of_decide_eq_false hc251)] at hm
            refine c_sr ?_
            refine t_st rfl (st_eql rfl rfl) ?_
            refine t_as rfl rfl ?_
            refine t_ne ?_
            refine c_cond _ rfl (fun hc274 => ?_) (fun hc274 => ?_)
            ·
             rw [if_pos (of_decide_eq_true hc274)] at hm
             refine c_seq ?_
             obtain ⟨x287, h288, hm⟩ := bindS hm
             obtain ⟨x297, hcl298, hm⟩ := bindS hm
             refine D_drawI mixed (.refl _) ?_
             refine E_s0 0 rfl (st_field rfl fld59_3) ?_
             refine E_st 1 rfl (st_load 1 rfl one57 rfl rfl) ?_
             obtain ⟨j289, hj290, hx291⟩ := idx_some h288
             obtain ⟨cs292, hr293, hcs294, hA295, hlt296⟩ := FZ.get (sz := 4) rfl (by decide) (FZ.nil (r := rFareCond) (A := none)) hx291
             obtain ⟨_, _, rfl, rfl, ⟨_, _, rfl, rfl, ⟨_, _, rfl, rfl, rfl⟩⟩⟩ := hr293
             refine E_s0 2 rfl (st_index_old j289 rfl rfl hj290 hlt296 hA295 sl57) ?_
             refine E_st 3 rfl (st_loadN_old (vs := [.int .i64 (x287.Kind), .int .i64 (x287.A), .int .i64 (x287.B), .slice none 0 0]) 4 rfl agg59 hA295 rfl (fun j u hu => hcs294 j u hu)) ?_
             refine E_st 4 rfl (st_loadD (vs := [_, _, _, _, _, _]) 0 6 rfl agg65 rfl rfl rfl) ?_
             refine E_out ?_
             refine D_all [5] (by kernel_rfl) rfl ?_
             refine R_do (Base.Le.refl _) rfl rfl (u_callW0 _ call53 rfl (fun w ho => ih _ [] x287 s2 A3 c4 (h5.old ho) x297 hcl298) (fun _ _ _ h => h.2.symm)) ?_ ?_
             ·
              rintro _ _ ⟨⟨_, rfl, _⟩, rfl⟩
              refine ⟨.inr (.refl _), ?_⟩
              refine E_in (Base.Le.refl _) (.refl _) ?_
              refine E_s0 6 rfl (st_not rfl) ?_
              refine E_s0 7 rfl (st_assign rfl) ?_
              refine E_out ?_
              refine D_done (by kernel_rfl) ?_
              refine x_then_normal ?_
              refine c_ret ?_
              refine x_block_ret ?_
              refine x_then_ret ?_
              obtain rfl := some1 hm
              exact retM (rs := [.tmp 4]) [.bool (!x297)] (Base.Le.refl _) (by decide) rfl ⟨rfl, trivial⟩ rfl (.cons _ (.cons _ (.refl _))) ⟨rfl, rfl⟩
             exact R_nil
            ·
             rw [if_neg (of_decide_eq_false hc274)] at hm
             refine c_sr ?_
             refine t_st rfl (st_eql rfl rfl) ?_
             refine t_as rfl rfl ?_
             refine t_ne ?_
             refine c_cond _ rfl (fun hc299 => ?_) (fun hc299 => ?_)
             ·
              rw [if_pos (of_decide_eq_true hc299)] at hm
              refine c_sr ?_
              refine t_st rfl (st_field rfl fld59_3) ?_
              refine t_st rfl (st_load 1 rfl one57 rfl rfl) ?_
              refine t_st rfl (st_func _ _ rfl rfl) ?_
              obtain ⟨x300, hcl301, hm⟩ := bindS hm
              refine t_callG _ rfl call73 rfl (cSlicesContainsFunc (mFareCondHolds N) ih _ _ [] s2.Day s2.At s2.Km s2.Age s2.Card s2.Zones g205 none 0 A3 c4 FZ.nil h5 x300 hcl301) ?_
              rintro _ b302 _ hle303 ⟨rfl, rfl⟩
              refine t_st rfl (st_not rfl) ?_
              refine t_as rfl rfl ?_
              refine t_ne ?_
              refine c_ret ?_
              refine x_block_ret ?_
              refine x_then_ret ?_
              obtain rfl := some1 hm
              exact retM (rs := [.tmp 4]) [.bool (!x300)] hle303 (by decide) rfl ⟨rfl, trivial⟩ rfl (.cons _ (.cons _ (.refl _))) ⟨rfl, rfl⟩
             ·
              rw [if_neg (of_decide_eq_false hc299)] at hm
              refine c_sr ?_
              refine t_st rfl (st_eql rfl rfl) ?_
              refine t_as rfl rfl ?_
              refine t_ne ?_
              refine c_cond _ rfl (fun hc304 => ?_) (fun hc304 => ?_)
              ·
               rw [if_pos (of_decide_eq_true hc304)] at hm
               refine c_sr ?_
               refine t_st rfl (st_field rfl fld59_3) ?_
               refine t_st rfl (st_load 1 rfl one57 rfl rfl) ?_
               refine t_st rfl (st_func _ _ rfl rfl) ?_
               obtain ⟨x305, hcl306, hm⟩ := bindS hm
               refine t_callG _ rfl call73 rfl (cSlicesContainsFunc_2 (mFareCondHolds N) ih _ _ [] s2.Day s2.At s2.Km s2.Age s2.Card s2.Zones g205 none 0 A3 c4 FZ.nil h5 x305 hcl306) ?_
               rintro _ b307 _ hle308 ⟨rfl, rfl⟩
               refine t_as rfl rfl ?_
               refine t_ne ?_
               refine c_ret ?_
               refine x_block_ret ?_
               refine x_then_ret ?_
               obtain rfl := some1 hm
               exact retM (rs := [.tmp 4]) [.bool (x305)] hle308 (by decide) rfl ⟨rfl, trivial⟩ rfl (.cons _ (.cons _ (.refl _))) ⟨rfl, rfl⟩
              ·
               rw [if_neg (of_decide_eq_false hc304)] at hm
               refine c_skip ?_
               refine x_block_normal ?_
               refine x_then_normal ?_
               refine c_sr ?_
               refine t_as rfl rfl ?_
               refine t_ne ?_
               refine c_ret ?_
               obtain rfl := some1 hm
               exact retM (rs := [.tmp 4]) [.bool (true)] (Base.Le.refl _) (by decide) rfl ⟨rfl, trivial⟩ rfl (.cons _ (.cons _ (.refl _))) ⟨rfl, rfl⟩

set_option maxRecDepth 20000 in
theorem cFareRuleChange (b : Base) (R : Hp) (s1 : FareRule) (x2 : Int) (x14 : Int) (hm : mFareRuleChange s1 x2 = some x14) :
    CallsG Tryz.prog 54 [.agg #[.int .i64 (s1.If.Kind), .int .i64 (s1.If.A), .int .i64 (s1.If.B), .slice none 0 0, .int .i64 (s1.Do), .int .i64 (s1.N), .bool (s1.Stop)], .int .i64 (x2)] b (R) (fun v b' hp' => .int .i64 (x14) = v ∧ R = hp') := by
  refine fn_enterG 43 Tryz.func54 rfl Tryz.ntmps54 rfl ?_
  unfold mFareRuleChange at hm
  refine c_sr ?_
  refine t_do rfl (u_box _ rfl rfl) ?_
  rintro _ _ ⟨g15, rfl, rfl⟩
  refine t_as rfl rfl ?_
  refine t_ne ?_
  refine c_seq ?_
  refine c_sr ?_
  refine t_st rfl (st_field rfl fld61_1) ?_
  refine t_st rfl (st_load 0 rfl one3 rfl rfl) ?_
  refine t_ne ?_
  refine c_block ?_
  refine c_sr ?_
  refine t_st rfl (st_eql rfl rfl) ?_
  refine t_as rfl rfl ?_
  refine t_ne ?_
  refine c_cond _ rfl (fun hc16 => ?_) (fun hc16 => ?_)
  ·
   rw [if_pos (of_decide_eq_true hc16)] at hm
   refine c_sr ?_
   refine t_mv rfl rfl ?_
   refine t_st rfl (st_field rfl fld61_2) ?_
   refine t_st rfl (st_load 0 rfl one3 rfl rfl) ?_
   obtain ⟨_, h17, hm⟩ := bindS hm
   have h17 := (chk_some h17).2
   refine t_st rfl (st_mul rfl rfl h17) ?_
   obtain ⟨_, h18, hm⟩ := bindS hm
   obtain ⟨_, h19, hm⟩ := bindS hm
   have h19 := (chk_some h19).2
   refine t_st rfl (st_quo rfl rfl (ne0_some h18) h19) ?_
   refine t_st rfl (st_min rfl rfl) ?_
   refine t_as rfl rfl ?_
   refine t_ne ?_
   refine c_ret ?_
   refine x_block_ret ?_
   refine x_then_ret ?_
   obtain rfl := some1 hm
   exact retM (rs := [.tmp 4]) [.int .i64 (min 100000 (Int.tdiv (x2 * s1.N) 100))] (Base.Le.refl _) (by decide) rfl ⟨rfl, trivial⟩ rfl (.cons _ (.refl _)) ⟨rfl, rfl⟩
  ·
   rw [if_neg (of_decide_eq_false hc16)] at hm
   refine c_sr ?_
   refine t_st rfl (st_eql rfl rfl) ?_
   refine t_as rfl rfl ?_
   refine t_ne ?_
   refine c_cond _ rfl (fun hc20 => ?_) (fun hc20 => ?_)
   ·
    rw [if_pos (of_decide_eq_true hc20)] at hm
    refine c_sr ?_
    refine t_mv rfl rfl ?_
    refine t_st rfl (st_field rfl fld61_2) ?_
    refine t_st rfl (st_load 0 rfl one3 rfl rfl) ?_
    obtain ⟨_, h21, hm⟩ := bindS hm
    have h21 := (chk_some h21).2
    refine t_st rfl (st_sub rfl rfl h21) ?_
    refine t_st rfl (st_max rfl rfl) ?_
    refine t_as rfl rfl ?_
    refine t_ne ?_
    refine c_ret ?_
    refine x_block_ret ?_
    refine x_then_ret ?_
    obtain rfl := some1 hm
    exact retM (rs := [.tmp 4]) [.int .i64 (max 0 (x2 - s1.N))] (Base.Le.refl _) (by decide) rfl ⟨rfl, trivial⟩ rfl (.cons _ (.refl _)) ⟨rfl, rfl⟩
   ·
    rw [if_neg (of_decide_eq_false hc20)] at hm
    refine c_sr ?_
    refine t_st rfl (st_eql rfl rfl) ?_
    refine t_as rfl rfl ?_
    refine t_ne ?_
    refine c_cond _ rfl (fun hc22 => ?_) (fun hc22 => ?_)
    ·
     rw [if_pos (of_decide_eq_true hc22)] at hm
     refine c_sr ?_
     refine t_mv rfl rfl ?_
     refine t_st rfl (st_field rfl fld61_2) ?_
     refine t_st rfl (st_load 0 rfl one3 rfl rfl) ?_
     obtain ⟨_, h23, hm⟩ := bindS hm
     have h23 := (chk_some h23).2
     refine t_st rfl (st_add rfl rfl h23) ?_
     refine t_st rfl (st_min rfl rfl) ?_
     refine t_as rfl rfl ?_
     refine t_ne ?_
     refine c_ret ?_
     refine x_block_ret ?_
     refine x_then_ret ?_
     obtain rfl := some1 hm
     exact retM (rs := [.tmp 4]) [.int .i64 (min 100000 (x2 + s1.N))] (Base.Le.refl _) (by decide) rfl ⟨rfl, trivial⟩ rfl (.cons _ (.refl _)) ⟨rfl, rfl⟩
    ·
     rw [if_neg (of_decide_eq_false hc22)] at hm
     refine c_sr ?_
     refine t_st rfl (st_eql rfl rfl) ?_
     refine t_as rfl rfl ?_
     refine t_ne ?_
     refine c_cond _ rfl (fun hc24 => ?_) (fun hc24 => ?_)
     ·
      rw [if_pos (of_decide_eq_true hc24)] at hm
      refine c_sr ?_
      refine t_st rfl (st_field rfl fld61_2) ?_
      refine t_st rfl (st_load 0 rfl one3 rfl rfl) ?_
      refine t_as rfl rfl ?_
      refine t_ne ?_
      refine c_ret ?_
      refine x_block_ret ?_
      refine x_then_ret ?_
      obtain rfl := some1 hm
      exact retM (rs := [.tmp 4]) [.int .i64 (s1.N)] (Base.Le.refl _) (by decide) rfl ⟨rfl, trivial⟩ rfl (.cons _ (.refl _)) ⟨rfl, rfl⟩
     ·
      rw [if_neg (of_decide_eq_false hc24)] at hm
      refine c_sr ?_
      refine t_st rfl (st_eql rfl rfl) ?_
      refine t_as rfl rfl ?_
      refine t_ne ?_
      refine c_cond _ rfl (fun hc25 => ?_) (fun hc25 => ?_)
      ·
       rw [if_pos (of_decide_eq_true hc25)] at hm
       refine c_sr ?_
       refine t_mv rfl rfl ?_
       refine t_st rfl (st_field rfl fld61_2) ?_
       refine t_st rfl (st_load 0 rfl one3 rfl rfl) ?_
       refine t_st rfl (st_min rfl rfl) ?_
       refine t_as rfl rfl ?_
       refine t_ne ?_
       refine c_ret ?_
       refine x_block_ret ?_
       refine x_then_ret ?_
       obtain rfl := some1 hm
       exact retM (rs := [.tmp 4]) [.int .i64 (min x2 s1.N)] (Base.Le.refl _) (by decide) rfl ⟨rfl, trivial⟩ rfl (.cons _ (.refl _)) ⟨rfl, rfl⟩
      ·
       rw [if_neg (of_decide_eq_false hc25)] at hm
       refine c_skip ?_
       refine x_block_normal ?_
       refine x_then_normal ?_
       refine c_sr ?_
       refine t_mv rfl rfl ?_
       refine t_st rfl (st_field rfl fld61_2) ?_
       refine t_st rfl (st_load 0 rfl one3 rfl rfl) ?_
       refine t_st rfl (st_max rfl rfl) ?_
       refine t_as rfl rfl ?_
       refine t_ne ?_
       refine c_ret ?_
       obtain rfl := some1 hm
       exact retM (rs := [.tmp 4]) [.int .i64 (max x2 s1.N)] (Base.Le.refl _) (by decide) rfl ⟨rfl, trivial⟩ rfl (.cons _ (.refl _)) ⟨rfl, rfl⟩

set_option maxRecDepth 20000 in
theorem cFareTariffPrice (b : Base) (R : Hp) (s1 : FareTariff) (s8 : FareTrip) (A2 : Option Addr) (c3 : Nat) (A5 : Option Addr) (c6 : Nat) (A9 : Option Addr) (c10 : Nat) (h4 : FZ rFareBand b.w A2 c3 s1.Bands) (h7 : FZ rFareRule b.w A5 c6 s1.Rules) (h11 : FZ (RT.int .i64) b.w A9 c10 s8.Zones) (x256 : Int) (l257 : (List Int)) (hm : mFareTariffPrice s1 s8 = some (x256, l257)) :
    CallsG Tryz.prog 32 [.agg #[.bool (s1.ByKm), .slice A2 (s1.Bands).length c3, .int .i64 (s1.Round), .slice A5 (s1.Rules).length c6], .agg #[.int .i64 (s8.Day), .int .i64 (s8.At), .int .i64 (s8.Km), .int .i64 (s8.Age), .bool (s8.Card), .slice A9 (s8.Zones).length c10]] b (R) (fun v b' hp' => ∃ (A253 : Option Addr), ∃ (c254 : Nat), ∃ (hs252 : Hp), .tuple #[.int .i64 (x256), .slice A253 (l257).length c254] = v ∧ (hs252 ++ R) = hp' ∧ OS 3 (OT.fr (RT.int .i64)) b'.w (.slice A253 l257.length c254) l257 hs252) := by
  refine fn_enterG 70 Tryz.func32 rfl Tryz.ntmps32 rfl ?_
  unfold mFareTariffPrice at hm
  refine c_sr ?_
  refine t_do rfl (u_box _ rfl rfl) ?_
  rintro _ _ ⟨g258, rfl, rfl⟩
  refine t_do rfl (u_box _ rfl rfl) ?_
  rintro _ _ ⟨g259, rfl, rfl⟩
  refine t_as rfl rfl ?_
  refine t_as rfl rfl ?_
  refine t_ne ?_
  refine c_sr ?_
  refine t_st rfl (st_field rfl fld65_5) ?_
  refine t_st rfl (st_load 0 rfl one22 rfl rfl) ?_
  refine t_st rfl (st_len rfl sl22) ?_
  refine t_do rfl (u_alloc [.int .i64 0] zero3 rfl) ?_
  rintro _ _ ⟨g260, rfl, rfl⟩
  refine t_do rfl (u_store 0 rfl rfl siz3 rfl rfl (by simp)) ?_
  rintro _ _ rfl
  refine t_ne ?_
  obtain ⟨x264, hj265, hk265⟩ := bindS hm
  refine c_join (fun b262 e' hp' => [(2, .pointer (some ⟨g258, 0, none⟩)), (3, .pointer (some ⟨g259, 0, none⟩)), (6, .pointer (some ⟨g260, 0, none⟩))] = e' ∧ (g258, Cl 48 [.bool (s1.ByKm), .slice A2 (s1.Bands).length c3, .int .i64 (s1.Round), .slice A5 (s1.Rules).length c6]) :: (g259, Cl 65 [.int .i64 (s8.Day), .int .i64 (s8.At), .int .i64 (s8.Km), .int .i64 (s8.Age), .bool (s8.Card), .slice A9 (s8.Zones).length c10]) :: (g260, Cl 3 [.int .i64 (x264)]) :: R = hp' ∧ b.Le b262) ?_ ?_
  ·
   have hm := hj265
   refine c_sr ?_
   refine t_st rfl (st_field rfl fld48_0) ?_
   refine t_st rfl (st_load 2 rfl one4 rfl rfl) ?_
   refine t_ne ?_
   refine c_cond _ rfl (fun hc266 => ?_) (fun hc266 => ?_)
   ·
    rw [if_pos hc266] at hm
    refine c_region ?_
    refine t_st rfl (st_field rfl fld65_2) ?_
    refine t_st rfl (st_load 1 rfl one3 rfl rfl) ?_
    refine t_do rfl (u_store 0 rfl rfl siz3 rfl rfl (by simp)) ?_
    rintro _ _ rfl
    refine t_nil ?_
    obtain rfl := some1 hm
    refine x_pullb 1 rfl ?_
    refine x_pullb 2 rfl ?_
    exact x_join (e' := [(2, .pointer (some ⟨g258, 0, none⟩)), (3, .pointer (some ⟨g259, 0, none⟩)), (6, .pointer (some ⟨g260, 0, none⟩))]) ⟨rfl, rfl, rfl, trivial⟩ (.refl _) ⟨rfl, rfl, (Base.Le.refl _)⟩
   ·
    rw [if_neg (fun hh => Bool.noConfusion (hh.symm.trans hc266))] at hm
    refine c_skip ?_
    obtain rfl := some1 hm
    refine x_pullb 1 rfl ?_
    refine x_pullb 2 rfl ?_
    exact x_join (e' := [(2, .pointer (some ⟨g258, 0, none⟩)), (3, .pointer (some ⟨g259, 0, none⟩)), (6, .pointer (some ⟨g260, 0, none⟩))]) ⟨rfl, rfl, rfl, trivial⟩ (.refl _) ⟨rfl, rfl, (Base.Le.refl _)⟩
  ·
   rintro b262 _ _ ⟨rfl, rfl, hle263⟩
   have hm := hk265
   refine c_sr ?_
   refine t_st rfl (st_field rfl fld48_1) ?_
   refine t_st rfl (st_load 0 rfl one45 rfl rfl) ?_
   refine t_st rfl (st_func _ _ rfl rfl) ?_
   obtain ⟨x267, hcl268, hm⟩ := bindS hm
   refine t_pullb 2 rfl ?_
   refine t_callG _ rfl call51 rfl (cSlicesIndexFunc _ _ s1.Bands x264 g260 A2 c3 (h4.le hle263) x267 hcl268) ?_
   rintro _ b269 _ hle270 ⟨rfl, rfl⟩
   refine t_as rfl rfl ?_
   refine t_ne ?_
   obtain ⟨x275, hj276, hk276⟩ := bindS hm
   refine c_join (fun b273 e' hp' => [(2, .pointer (some ⟨g258, 0, none⟩)), (3, .pointer (some ⟨g259, 0, none⟩)), (7, .int .i64 (x275))] = e' ∧ (g258, Cl 48 [.bool (s1.ByKm), .slice A2 (s1.Bands).length c3, .int .i64 (s1.Round), .slice A5 (s1.Rules).length c6]) :: (g259, Cl 65 [.int .i64 (s8.Day), .int .i64 (s8.At), .int .i64 (s8.Km), .int .i64 (s8.Age), .bool (s8.Card), .slice A9 (s8.Zones).length c10]) :: R = hp' ∧ b269.Le b273) ?_ ?_
   ·
    have hm := hj276
    refine c_sr ?_
    refine t_mv rfl rfl ?_
    refine t_st rfl (st_lss rfl rfl) ?_
    refine t_ne ?_
    refine c_cond _ rfl (fun hc277 => ?_) (fun hc277 => ?_)
    ·
     rw [if_pos (of_decide_eq_true hc277)] at hm
     refine c_region ?_
     refine t_st rfl (st_field rfl fld48_1) ?_
     refine t_st rfl (st_load 1 rfl one45 rfl rfl) ?_
     refine t_st rfl (st_len rfl sl45) ?_
     obtain ⟨_, h278, hm⟩ := bindS hm
     have h278 := (chk_some h278).2
     refine t_st rfl (st_sub rfl rfl h278) ?_
     refine t_as rfl rfl ?_
     refine t_nil ?_
     obtain rfl := some1 hm
     refine x_pullb 2 rfl ?_
     refine x_pullb 2 rfl ?_
     exact x_join (e' := [(2, .pointer (some ⟨g258, 0, none⟩)), (3, .pointer (some ⟨g259, 0, none⟩)), (7, .int .i64 ((s1.Bands.length : Int) - 1))]) ⟨rfl, rfl, rfl, trivial⟩ (.cons_cons _ (.cons_cons _ (.cons _ (.refl _)))) ⟨rfl, rfl, (Base.Le.refl _)⟩
    ·
     rw [if_neg (of_decide_eq_false hc277)] at hm
     refine c_skip ?_
     obtain rfl := some1 hm
     refine x_pullb 2 rfl ?_
     refine x_pullb 2 rfl ?_
     exact x_join (e' := [(2, .pointer (some ⟨g258, 0, none⟩)), (3, .pointer (some ⟨g259, 0, none⟩)), (7, .int .i64 (x267))]) ⟨rfl, rfl, rfl, trivial⟩ (.cons_cons _ (.cons_cons _ (.cons _ (.refl _)))) ⟨rfl, rfl, (Base.Le.refl _)⟩
   ·
    rintro b273 _ _ ⟨rfl, rfl, hle274⟩
    have hm := hk276
    refine c_sr ?_
    refine t_st rfl (st_field rfl fld48_1) ?_
    refine t_st rfl (st_load 0 rfl one45 rfl rfl) ?_
    refine t_mv rfl rfl ?_
    obtain ⟨x279, h280, hm⟩ := bindS hm
    obtain ⟨j281, hj282, hx283⟩ := idx_some h280
    obtain ⟨cs284, hr285, hcs286, hA287, hlt288⟩ := FZ.get (sz := 2) rfl (by decide) (h4.le (hle263.trans (hle270.trans hle274))) hx283
    obtain ⟨_, _, rfl, rfl, rfl⟩ := hr285
    refine t_st rfl (st_index_old j281 rfl rfl hj282 hlt288 hA287 sl45) ?_
    refine t_st rfl (st_field_old rfl hA287 fld56_1) ?_
    refine t_st rfl (st_load_old rfl one3 (hcs286 1 _ rfl)) ?_
    refine t_as rfl rfl ?_
    refine t_ne ?_
    refine c_sr ?_
    refine t_as rfl rfl ?_
    refine t_ne ?_
    obtain ⟨⟨x390, l391⟩, hj392, hk392⟩ := bindS hm
    refine c_join (fun b383 e' hp' => ∃ (A387 : Option Addr), ∃ (c388 : Nat), ∃ (hs386 : Hp), [(2, .pointer (some ⟨g258, 0, none⟩)), (8, .int .i64 (x390)), (9, .slice A387 (l391).length c388)] = e' ∧ (g258, Cl 48 [.bool (s1.ByKm), .slice A2 (s1.Bands).length c3, .int .i64 (s1.Round), .slice A5 (s1.Rules).length c6]) :: (hs386 ++ R) = hp' ∧ b273.Le b383 ∧ OS 3 (OT.fr (RT.int .i64)) b383.w (.slice A387 l391.length c388) l391 hs386) ?_ ?_
    ·
     have hm := hj392
     refine c_sr ?_
     refine t_st rfl (st_field rfl fld48_3) ?_
     refine t_st rfl (st_load 0 rfl one46 rfl rfl) ?_
     refine t_st rfl (st_len rfl sl46) ?_
     refine t_mv rfl rfl ?_
     refine t_ne ?_
     refine c_block ?_
     have hb394 : s1.Rules.length ≤ 9223372036854775807 := (FZ.bd (h7.le (hle263.trans (hle270.trans hle274))))
     refine c_pullb 1 rfl ?_
     refine c_pullb 1 rfl ?_
     obtain ⟨t459, hl460, hk461⟩ := bindS hm
     refine c_forM (fun k458 => unc2 fun x456 l457 => fun b449 e' hp' => ∃ (A453 : Option Addr), ∃ (c454 : Nat), ∃ (hs452 : Hp), [(2, .pointer (some ⟨g258, 0, none⟩)), (3, .pointer (some ⟨g259, 0, none⟩)), (8, .int .i64 (x456)), (9, .slice A453 (l457).length c454), (36, .slice A5 (s1.Rules).length c6), (37, .int .i64 ((s1.Rules.length : Int))), (38, .int .i64 ((k458 : Int)))] = e' ∧ (g258, Cl 48 [.bool (s1.ByKm), .slice A2 (s1.Bands).length c3, .int .i64 (s1.Round), .slice A5 (s1.Rules).length c6]) :: (g259, Cl 65 [.int .i64 (s8.Day), .int .i64 (s8.At), .int .i64 (s8.Km), .int .i64 (s8.Age), .bool (s8.Card), .slice A9 (s8.Zones).length c10]) :: (hs452 ++ R) = hp' ∧ b273.Le b449 ∧ OS 3 (OT.fr (RT.int .i64)) b449.w (.slice A453 l457.length c454) l457 hs452) hl460 (e' := [(2, .pointer (some ⟨g258, 0, none⟩)), (3, .pointer (some ⟨g259, 0, none⟩)), (8, .int .i64 (x279.Price)), (9, .slice none 0 0), (36, .slice A5 (s1.Rules).length c6), (37, .int .i64 ((s1.Rules.length : Int))), (38, .int .i64 0)]) ⟨rfl, rfl, rfl, rfl, rfl, rfl, rfl, trivial⟩ (.refl _) ⟨none, 0, [], rfl, rfl, (Base.Le.refl _), OS.nil⟩ ?_ ?_
     ·
      rintro k458 ⟨x456, l457⟩ b449 _ _ oL393 hknL393 ⟨A453, c454, hs452, rfl, rfl, hle450, h455⟩ hstepL393 houtL393
      unfold mFareTariffPrice_L393 at hstepL393
      have hm := (unc2E hstepL393)
      refine c_sr ?_
      refine t_st rfl (st_lss_t rfl rfl (by omega)) ?_
      refine t_ne ?_
      refine c_seq ?_
      refine c_cond_t rfl ?_
      refine c_skip ?_
      refine x_then_normal ?_
      refine c_seq ?_
      refine c_block ?_
      refine c_sr ?_
      refine t_mv rfl rfl ?_
      obtain ⟨x462, h463, hm⟩ := bindS hm
      obtain ⟨j464, hj465, hx466⟩ := idx_some h463
      obtain ⟨cs467, hr468, hcs469, hA470, hlt471⟩ := FZ.get (sz := 7) rfl (by decide) (h7.le (hle263.trans (hle270.trans (hle274.trans hle450)))) hx466
      obtain ⟨_, _, rfl, ⟨_, _, rfl, rfl, ⟨_, _, rfl, rfl, ⟨_, _, rfl, rfl, rfl⟩⟩⟩, ⟨_, _, rfl, rfl, ⟨_, _, rfl, rfl, rfl⟩⟩⟩ := hr468
      refine t_st rfl (st_index_old j464 rfl rfl hj465 hlt471 hA470 sl46) ?_
      refine t_st rfl (st_loadN_old (vs := [.int .i64 (x462.If.Kind), .int .i64 (x462.If.A), .int .i64 (x462.If.B), .slice none 0 0, .int .i64 (x462.Do), .int .i64 (x462.N), .bool (x462.Stop)]) 7 rfl agg61 hA470 rfl (fun j u hu => hcs469 j u hu)) ?_
      refine t_do rfl (u_alloc [.int .i64 0, .int .i64 0, .int .i64 0, .slice none 0 0, .int .i64 0, .int .i64 0, .bool false] zero61 rfl) ?_
      rintro _ _ ⟨g472, rfl, rfl⟩
      refine t_as rfl rfl ?_
      refine t_do rfl (u_storeN (vs := [_, _, _, _, _, _, _]) 0 7 rfl rfl rfl siz61 rfl (mem_c rfl (mem_c rfl (mem_c rfl (mem_c rfl (mem_c rfl (mem_c rfl (mem_c rfl mem_n))))))) rfl (by simp)) ?_
      rintro _ _ rfl
      refine t_ne ?_
      refine c_seq ?_
      refine c_sr ?_
      refine t_st rfl (st_field rfl fld61_0) ?_
      refine t_st rfl (st_loadD (vs := [_, _, _, _]) 0 4 rfl agg59 rfl rfl rfl) ?_
      refine t_st rfl (st_loadD (vs := [_, _, _, _, _, _]) 2 6 rfl agg65 rfl rfl rfl) ?_
      obtain ⟨x473, hcl474, hm⟩ := bindS hm
      obtain ⟨Nhcl474, hcl474⟩ := lim_some hcl474
      refine t_do rfl (u_callW0 _ call53 rfl (fun w ho => cFareCondHolds Nhcl474 _ [] x462.If s8 A9 c10 ((h11.le (hle263.trans (hle270.trans (hle274.trans hle450)))).old ho) x473 hcl474) (fun _ _ _ h => h.2.symm)) ?_
      rintro _ _ ⟨⟨_, rfl, _⟩, rfl⟩
      refine t_st rfl (st_not rfl) ?_
      refine t_ne ?_
      refine c_cond _ rfl (fun hc475 => ?_) (fun hc475 => ?_)
      ·
       rw [if_neg (fun hh => Bool.noConfusion (hh.symm.trans (notT hc475)))] at hm
       refine c_exit ?_
       refine x_then_exit ?_
       refine x_block_out ?_
       refine x_then_normal ?_
       refine c_region ?_
       refine t_st rfl (st_add rfl rfl (by omega)) ?_
       refine t_mv rfl rfl ?_
       refine t_nil ?_
       refine x_pullb 2 rfl ?_
       refine x_pullb 2 rfl ?_
       exact x_againM (x456, l457) (Option.some.inj hm).symm (e' := [(2, .pointer (some ⟨g258, 0, none⟩)), (3, .pointer (some ⟨g259, 0, none⟩)), (8, .int .i64 (x456)), (9, .slice A453 (l457).length c454), (36, .slice A5 (s1.Rules).length c6), (37, .int .i64 ((s1.Rules.length : Int))), (38, .int .i64 ((k458 : Int) + 1))]) ⟨rfl, rfl, rfl, rfl, rfl, rfl, rfl, trivial⟩ (.cons_cons _ (.cons_cons _ (.cons _ (.refl _)))) ⟨A453, c454, hs452, rfl, rfl, (hle450), h455⟩
      ·
       rw [if_pos (notF hc475)] at hm
       refine c_skip ?_
       refine x_then_normal ?_
       refine c_sr ?_
       refine t_mv rfl rfl ?_
       refine t_mv rfl rfl ?_
       refine t_do rfl (u_bslice (el := 3) [(0, .int .i64 ((k458 : Int)))] [.int .i64 ((k458 : Int))] rfl (fun _ => by kernel_rfl)) ?_
       rintro _ _ ⟨g476, rfl, rfl⟩
       obtain ⟨_, h477, hm⟩ := bindS hm
       have h477 := room_some h477
       refine t_do rfl (u_appOS (r := (RT.int .i64)) (l := l457) [_, _, _, _] R [[.int .i64 ((k458 : Int))]] [(k458 : Int)] rfl (by decide) sl22 inf3 rfl rfl rfl rfl h455 rfl (fun w ho => Rd.own (i := 0) ho rfl) ⟨rfl, trivial⟩ h477) ?_
       rintro _ _ ⟨hs478, rfl, h479⟩
       obtain ⟨A480, c481, rfl, _⟩ := h479.form
       refine t_as rfl rfl ?_
       refine t_ne ?_
       refine c_sr ?_
       refine t_st rfl (st_loadD (vs := [_, _, _, _, _, _, _]) 1 7 rfl agg61 rfl rfl rfl) ?_
       refine t_mv rfl rfl ?_
       obtain ⟨x482, hcl483, hm⟩ := bindS hm
       refine t_do rfl (u_callW0 _ call54 rfl (fun w ho => cFareRuleChange _ [] x462 x456 x482 hcl483) (fun _ _ _ h => h.2.symm)) ?_
       rintro _ _ ⟨⟨_, rfl, _⟩, rfl⟩
       refine t_as rfl rfl ?_
       refine t_ne ?_
       refine c_sr ?_
       refine t_st rfl (st_field rfl fld61_3) ?_
       refine t_st rfl (st_load 1 rfl one4 rfl rfl) ?_
       refine t_ne ?_
       refine c_cond _ rfl (fun hc484 => ?_) (fun hc484 => ?_)
       ·
        rw [if_pos hc484] at hm
        refine c_exit ?_
        refine x_block_on rfl ?_
        refine x_then_exit ?_
        refine x_then_exit ?_
        refine x_block_out ?_
        have hq485 := houtL393 _ (Option.some.inj hm).symm
        rw [hq485] at hk461
        have hm := elimR hk461
        obtain ⟨rfl, rfl⟩ := some2 hm
        refine x_pullb 2 rfl ?_
        exact x_join (e' := [(2, .pointer (some ⟨g258, 0, none⟩)), (8, .int .i64 (x482)), (9, .slice A480 (l457 ++ [(k458 : Int)]).length c481)]) ⟨rfl, rfl, rfl, trivial⟩ (.cons_cons _ (.cons _ (.cons _ (.cons _ (.refl _))))) ⟨A480, c481, hs478, rfl, rfl, hle450, h479⟩
       ·
        rw [if_neg (fun hh => Bool.noConfusion (hh.symm.trans hc484))] at hm
        refine c_skip ?_
        refine x_block_normal ?_
        refine x_then_normal ?_
        refine c_region ?_
        refine t_st rfl (st_add rfl rfl (by omega)) ?_
        refine t_mv rfl rfl ?_
        refine t_nil ?_
        refine x_pullb 3 rfl ?_
        refine x_pullb 3 rfl ?_
        exact x_againM (x482, l457 ++ [(k458 : Int)]) (Option.some.inj hm).symm (e' := [(2, .pointer (some ⟨g258, 0, none⟩)), (3, .pointer (some ⟨g259, 0, none⟩)), (8, .int .i64 (x482)), (9, .slice A480 (l457 ++ [(k458 : Int)]).length c481), (36, .slice A5 (s1.Rules).length c6), (37, .int .i64 ((s1.Rules.length : Int))), (38, .int .i64 ((k458 : Int) + 1))]) ⟨rfl, rfl, rfl, rfl, rfl, rfl, rfl, trivial⟩ (.cons_cons _ (.cons_cons _ (.cons _ (.cons _ (.refl _))))) ⟨A480, c481, hs478, rfl, rfl, (hle450), h479⟩
     ·
      rintro ⟨x456, l457⟩ b449 _ _ ⟨A453, c454, hs452, rfl, rfl, hle450, h455⟩ hq486
      rw [hq486] at hk461
      have hm := elimL hk461
      have hm := (unc2E hm)
      refine c_sr ?_
      refine t_st rfl (st_lss_f rfl rfl (by omega)) ?_
      refine t_ne ?_
      refine c_seq ?_
      refine c_cond_f rfl ?_
      refine c_exit ?_
      refine x_then_exit ?_
      refine x_then_exit ?_
      refine x_block_out ?_
      obtain ⟨rfl, rfl⟩ := some2 hm
      exact x_join (e' := [(2, .pointer (some ⟨g258, 0, none⟩)), (8, .int .i64 (x456)), (9, .slice A453 (l457).length c454)]) ⟨rfl, rfl, rfl, trivial⟩ (.cons_cons _ (.cons _ (.refl _))) ⟨A453, c454, hs452, rfl, rfl, hle450, h455⟩
    ·
     rintro b383 _ _ ⟨A387, c388, hs386, rfl, rfl, hle384, h389⟩
     have hm := (unc2E hk392)
     refine c_seq ?_
     obtain ⟨_, h492, hm⟩ := bindS hm
     obtain ⟨_, h493, hm⟩ := bindS hm
     obtain ⟨_, h494, hm⟩ := bindS hm
     obtain ⟨_, h495, hm⟩ := bindS hm
     obtain ⟨_, h496, hm⟩ := bindS hm
     refine D_drawI mixed (.refl _) ?_
     refine E_s0 0 rfl (st_move rfl) ?_
     refine E_s0 1 rfl (st_field rfl fld48_2) ?_
     refine E_st 2 rfl (st_load 0 rfl one3 rfl rfl) ?_
     have h492 := (chk_some h492).2
     refine E_s0 3 rfl (st_add rfl rfl h492) ?_
     have h493 := (chk_some h493).2
     refine E_s0 4 rfl (st_sub rfl rfl h493) ?_
     refine E_s0 5 rfl (st_field rfl fld48_2) ?_
     refine E_st 6 rfl (st_load 0 rfl one3 rfl rfl) ?_
     have h495 := (chk_some h495).2
     refine E_s0 7 rfl (st_quo rfl rfl (ne0_some h494) h495) ?_
     refine E_s0 8 rfl (st_field rfl fld48_2) ?_
     refine E_st 9 rfl (st_load 0 rfl one3 rfl rfl) ?_
     have h496 := (chk_some h496).2
     refine E_s0 10 rfl (st_mul rfl rfl h496) ?_
     refine E_s0 11 rfl (st_move rfl) ?_
     refine E_s0 12 rfl (st_assign rfl) ?_
     refine E_s0 13 rfl (st_assign rfl) ?_
     refine E_out ?_
     refine D_done (by kernel_rfl) ?_
     refine x_then_normal ?_
     refine c_ret ?_
     obtain ⟨rfl, rfl⟩ := some2 hm
     exact retM (rs := [.tmp 4, .tmp 5]) [.int .i64 ((Int.tdiv ((x390 + s1.Round) - 1) s1.Round) * s1.Round), .slice A387 (l391).length c388] (hle263.trans (hle270.trans (hle274.trans hle384))) (by decide) rfl ⟨rfl, ⟨rfl, trivial⟩⟩ rfl (.cons _ (.refl _)) ⟨A387, c388, hs386, rfl, rfl, h389⟩

set_option maxRecDepth 20000 in
theorem cFarePrice (b : Base) (R : Hp) (s1 : FareTariff) (s8 : FareTrip) (A2 : Option Addr) (c3 : Nat) (A5 : Option Addr) (c6 : Nat) (A9 : Option Addr) (c10 : Nat) (h4 : FZ rFareBand b.w A2 c3 s1.Bands) (h7 : FZ rFareRule b.w A5 c6 s1.Rules) (h11 : FZ (RT.int .i64) b.w A9 c10 s8.Zones) (x34 : Int) (x35 : Int) (l36 : (List Int)) (hm : mFarePrice s1 s8 = some (x34, x35, l36)) :
    CallsG Tryz.prog 17 [.agg #[.bool (s1.ByKm), .slice A2 (s1.Bands).length c3, .int .i64 (s1.Round), .slice A5 (s1.Rules).length c6], .agg #[.int .i64 (s8.Day), .int .i64 (s8.At), .int .i64 (s8.Km), .int .i64 (s8.Age), .bool (s8.Card), .slice A9 (s8.Zones).length c10]] b (R) (fun v b' hp' => ∃ (A31 : Option Addr), ∃ (c32 : Nat), ∃ (hs30 : Hp), .tuple #[.int .i64 (x34), .slice A31 (l36).length c32, .int .i64 (x35)] = v ∧ (hs30 ++ R) = hp' ∧ OS 3 (OT.fr (RT.int .i64)) b'.w (.slice A31 l36.length c32) l36 hs30) := by
  refine fn_enterG 29 Tryz.func17 rfl Tryz.ntmps17 rfl ?_
  unfold mFarePrice at hm
  refine c_sr ?_
  refine t_do rfl (u_box _ rfl rfl) ?_
  rintro _ _ ⟨g37, rfl, rfl⟩
  refine t_do rfl (u_box _ rfl rfl) ?_
  rintro _ _ ⟨g38, rfl, rfl⟩
  refine t_as rfl rfl ?_
  refine t_as rfl rfl ?_
  refine t_as rfl rfl ?_
  refine t_ne ?_
  refine c_seq ?_
  refine c_sr ?_
  refine t_st rfl (st_loadD (vs := [_, _, _, _]) 1 4 rfl agg48 rfl rfl rfl) ?_
  obtain ⟨x39, hcl40, hm⟩ := bindS hm
  refine t_do rfl (u_callW0 _ call30 rfl (fun w ho => cFareCheckTariff _ [] s1 A2 c3 A5 c6 (h4.old ho) (h7.old ho) x39 hcl40) (fun _ _ _ h => h.2.symm)) ?_
  rintro _ _ ⟨⟨_, rfl, _⟩, rfl⟩
  refine t_as rfl rfl ?_
  refine t_ne ?_
  refine c_sr ?_
  refine t_mv rfl rfl ?_
  refine t_st rfl (st_neq rfl rfl) ?_
  refine t_ne ?_
  refine c_cond _ rfl (fun hc41 => ?_) (fun hc41 => ?_)
  ·
   rw [if_pos (of_decide_eq_true hc41)] at hm
   refine c_sr ?_
   refine t_mv rfl rfl ?_
   refine t_as rfl rfl ?_
   refine t_as rfl rfl ?_
   refine t_as rfl rfl ?_
   refine t_ne ?_
   refine c_ret ?_
   refine x_then_ret ?_
   obtain ⟨rfl, rfl, rfl⟩ := some3 hm
   exact retM (rs := [.tmp 4, .tmp 5, .tmp 6]) [.int .i64 (0), .slice none 0 0, .int .i64 (x39)] (Base.Le.refl _) (by decide) rfl ⟨rfl, ⟨rfl, ⟨rfl, trivial⟩⟩⟩ rfl (.cons _ (.cons _ (.refl _))) ⟨none, 0, [], rfl, rfl, OS.nil⟩
  ·
   rw [if_neg (of_decide_eq_false hc41)] at hm
   refine c_skip ?_
   refine x_then_normal ?_
   refine c_seq ?_
   refine c_sr ?_
   refine t_st rfl (st_loadD (vs := [_, _, _, _, _, _]) 0 6 rfl agg65 rfl rfl rfl) ?_
   obtain ⟨x42, hcl43, hm⟩ := bindS hm
   refine t_do rfl (u_callW0 _ call31 rfl (fun w ho => cFareCheckTrip _ [] s8 A9 c10 (h11.old ho) x42 hcl43) (fun _ _ _ h => h.2.symm)) ?_
   rintro _ _ ⟨⟨_, rfl, _⟩, rfl⟩
   refine t_as rfl rfl ?_
   refine t_ne ?_
   refine c_sr ?_
   refine t_mv rfl rfl ?_
   refine t_st rfl (st_neq rfl rfl) ?_
   refine t_ne ?_
   refine c_cond _ rfl (fun hc44 => ?_) (fun hc44 => ?_)
   ·
    rw [if_pos (of_decide_eq_true hc44)] at hm
    refine c_sr ?_
    refine t_mv rfl rfl ?_
    refine t_as rfl rfl ?_
    refine t_as rfl rfl ?_
    refine t_as rfl rfl ?_
    refine t_ne ?_
    refine c_ret ?_
    refine x_then_ret ?_
    obtain ⟨rfl, rfl, rfl⟩ := some3 hm
    exact retM (rs := [.tmp 4, .tmp 5, .tmp 6]) [.int .i64 (0), .slice none 0 0, .int .i64 (x42)] (Base.Le.refl _) (by decide) rfl ⟨rfl, ⟨rfl, ⟨rfl, trivial⟩⟩⟩ rfl (.cons _ (.cons _ (.refl _))) ⟨none, 0, [], rfl, rfl, OS.nil⟩
   ·
    rw [if_neg (of_decide_eq_false hc44)] at hm
    refine c_skip ?_
    refine x_then_normal ?_
    refine c_sr ?_
    refine t_st rfl (st_loadD (vs := [_, _, _, _]) 1 4 rfl agg48 rfl rfl rfl) ?_
    refine t_st rfl (st_loadD (vs := [_, _, _, _, _, _]) 0 6 rfl agg65 rfl rfl rfl) ?_
    obtain ⟨⟨x45, l46⟩, hcl47, hm⟩ := bindS hm
    have hm := (unc2E hm)
    refine t_callG _ rfl call32 rfl (cFareTariffPrice _ _ s1 s8 A2 c3 A5 c6 A9 c10 h4 h7 h11 x45 l46 hcl47) ?_
    rintro _ b48 _ hle49 ⟨A50, c51, hs52, rfl, rfl, h53⟩
    refine t_in1 [] [_, _] hs52 R rfl ?_
    refine t_mv rfl rfl ?_
    refine t_st rfl (st_extract rfl rfl) ?_
    refine t_st rfl (st_extract rfl rfl) ?_
    refine t_as rfl rfl ?_
    refine t_as rfl rfl ?_
    refine t_ne ?_
    refine c_sr ?_
    refine t_mv rfl rfl ?_
    refine t_mv rfl rfl ?_
    refine t_as rfl rfl ?_
    refine t_as rfl rfl ?_
    refine t_as rfl rfl ?_
    refine t_ne ?_
    refine c_ret ?_
    obtain ⟨rfl, rfl, rfl⟩ := some3 hm
    exact retM (rs := [.tmp 4, .tmp 5, .tmp 6]) [.int .i64 (x45), .slice A50 (l46).length c51, .int .i64 (0)] hle49 (by decide) rfl ⟨rfl, ⟨rfl, ⟨rfl, trivial⟩⟩⟩ rfl (.cons _ (.cons _ (.refl _))) ⟨A50, c51, hs52, rfl, rfl, h53⟩

set_option maxRecDepth 20000 in
theorem cFishkeep2Fares (b : Base) (R : Hp) (x27 : Bool) (hm : mFishkeep2Fares = some x27) :
    CallsG Tryz.prog 6 [] b (R) (fun v b' hp' => .bool (x27) = v ∧ R = hp') := by
  refine fn_enterG 25 Tryz.func6 rfl Tryz.ntmps6 rfl ?_
  unfold mFishkeep2Fares at hm
  refine c_sr ?_
  refine t_as rfl rfl ?_
  refine t_ne ?_
  refine c_sr ?_
  refine t_st rfl (st_build (v := .agg #[.int .i64 (3), .int .i64 (500)]) [(0, .int .i64 (3)), (1, .int .i64 (500))] rfl (fun _ => by kernel_rfl)) ?_
  refine t_do rfl (u_bslice (el := 56) [(0, .agg #[.int .i64 (3), .int .i64 (500)])] [.int .i64 (3), .int .i64 (500)] rfl (fun _ => by kernel_rfl)) ?_
  rintro _ _ ⟨g28, rfl, rfl⟩
  refine t_st rfl (st_build (v := .agg #[.int .i64 (1), .int .i64 (0), .int .i64 (0), .slice none 0 0]) [(0, .int .i64 (1))] rfl (fun _ => by kernel_rfl)) ?_
  refine t_st rfl (st_build (v := .agg #[.int .i64 (1), .int .i64 (0), .int .i64 (0), .slice none 0 0, .int .i64 (2), .int .i64 (7), .bool (false)]) [(0, .agg #[.int .i64 (1), .int .i64 (0), .int .i64 (0), .slice none 0 0]), (1, .int .i64 (2)), (2, .int .i64 (7))] rfl (fun _ => by kernel_rfl)) ?_
  refine t_do rfl (u_bslice (el := 61) [(0, .agg #[.int .i64 (1), .int .i64 (0), .int .i64 (0), .slice none 0 0, .int .i64 (2), .int .i64 (7), .bool (false)])] [.int .i64 (1), .int .i64 (0), .int .i64 (0), .slice none 0 0, .int .i64 (2), .int .i64 (7), .bool (false)] rfl (fun _ => by kernel_rfl)) ?_
  rintro _ _ ⟨g29, rfl, rfl⟩
  refine t_st rfl (st_build (v := .agg #[.bool (false), .slice (some ⟨g28, 0, none⟩) 1 1, .int .i64 (1), .slice (some ⟨g29, 0, none⟩) 1 1]) [(1, .slice (some ⟨g28, 0, none⟩) 1 1), (2, .int .i64 (1)), (3, .slice (some ⟨g29, 0, none⟩) 1 1)] rfl (fun _ => by kernel_rfl)) ?_
  refine t_do rfl (u_alloc [.bool false, .slice none 0 0, .int .i64 0, .slice none 0 0] zero48 rfl) ?_
  rintro _ _ ⟨g30, rfl, rfl⟩
  refine t_seg 2 [_, _] R rfl rfl ?_
  have h32 : OS 56 (OT.fr rFareBand) b.w (.slice (some ⟨g28, 0, none⟩) 1 1) [(⟨3, 500⟩ : FareBand)] [(g28, Cl 56 [.int .i64 (3), .int .i64 (500)])] := OS.lit [[.int .i64 (3), .int .i64 (500)]] rfl ⟨⟨[.int .i64 (3)], _, rfl, rfl, rfl⟩, trivial⟩ rfl (by decide)
  refine t_seg 1 [_] ([(g28, Cl 56 [.int .i64 (3), .int .i64 (500)])] ++ R) rfl rfl ?_
  have h34 : OS 61 (OT.fr rFareRule) b.w (.slice (some ⟨g29, 0, none⟩) 1 1) [(⟨(⟨1, 0, 0, ()⟩ : FareCond), 2, 7, false⟩ : FareRule)] [(g29, Cl 61 [.int .i64 (1), .int .i64 (0), .int .i64 (0), .slice none 0 0, .int .i64 (2), .int .i64 (7), .bool (false)])] := OS.lit [[.int .i64 (1), .int .i64 (0), .int .i64 (0), .slice none 0 0, .int .i64 (2), .int .i64 (7), .bool (false)]] rfl ⟨⟨[.int .i64 (1), .int .i64 (0), .int .i64 (0), .slice none 0 0], _, rfl, ⟨[.int .i64 (1)], _, rfl, rfl, ⟨[.int .i64 (0)], _, rfl, rfl, ⟨[.int .i64 (0)], _, rfl, rfl, rfl⟩⟩⟩, ⟨[.int .i64 (2)], _, rfl, rfl, ⟨[.int .i64 (7)], _, rfl, rfl, rfl⟩⟩⟩, trivial⟩ rfl (by decide)
  refine t_do rfl (u_storeN (vs := [_, _, _, _]) 0 4 rfl rfl rfl siz48 rfl (mem_c rfl (mem_c rfl (mem_c rfl (mem_c rfl mem_n)))) rfl (by simp)) ?_
  rintro _ _ rfl
  refine t_ne ?_
  refine c_sr ?_
  refine t_st rfl (st_loadD (vs := [_, _, _, _]) 0 4 rfl agg48 rfl rfl rfl) ?_
  refine t_do rfl (u_bslice (el := 3) [(0, .int .i64 (1))] [.int .i64 (1)] rfl (fun _ => by kernel_rfl)) ?_
  rintro _ _ ⟨g35, rfl, rfl⟩
  refine t_st rfl (st_build (v := .agg #[.int .i64 (0), .int .i64 (0), .int .i64 (0), .int .i64 (0), .bool (true), .slice (some ⟨g35, 0, none⟩) 1 1]) [(4, .bool (true)), (5, .slice (some ⟨g35, 0, none⟩) 1 1)] rfl (fun _ => by kernel_rfl)) ?_
  refine t_seg 0 [_] ([(g29, Cl 61 [.int .i64 (1), .int .i64 (0), .int .i64 (0), .slice none 0 0, .int .i64 (2), .int .i64 (7), .bool (false)])] ++ ([(g28, Cl 56 [.int .i64 (3), .int .i64 (500)])] ++ R)) rfl rfl ?_
  have h37 : OS 3 (OT.fr (RT.int .i64)) b.w (.slice (some ⟨g35, 0, none⟩) 1 1) [1] [(g35, Cl 3 [.int .i64 (1)])] := OS.lit [[.int .i64 (1)]] rfl ⟨rfl, trivial⟩ rfl (by decide)
  obtain ⟨⟨x38, x39, l40⟩, hcl41, hm⟩ := bindS hm
  have hm := (unc3E hm)
  refine t_do rfl (u_callWF [_] ([(g35, Cl 3 [.int .i64 (1)])] ++ ([(g29, Cl 61 [.int .i64 (1), .int .i64 (0), .int .i64 (0), .slice none 0 0, .int .i64 (2), .int .i64 (7), .bool (false)])] ++ ([(g28, Cl 56 [.int .i64 (3), .int .i64 (500)])] ++ R))) _ rfl call17 rfl (fun w ho => cFarePrice _ [] (⟨false, [(⟨3, 500⟩ : FareBand)], 1, [(⟨(⟨1, 0, 0, ()⟩ : FareCond), 2, 7, false⟩ : FareRule)]⟩ : FareTariff) (⟨0, 0, 0, 0, true, [1]⟩ : FareTrip) (some ⟨g28, 0, none⟩) 1 (some ⟨g29, 0, none⟩) 1 (some ⟨g35, 0, none⟩) 1 (OS.now (o := (OT.fr rFareBand)) (l := [(⟨3, 500⟩ : FareBand)]) (hs := [(g28, Cl 56 [.int .i64 (3), .int .i64 (500)])]) h32 ho (.cons _ (sub_skip [(g35, Cl 3 [.int .i64 (1)])] (sub_skip [(g29, Cl 61 [.int .i64 (1), .int .i64 (0), .int .i64 (0), .slice none 0 0, .int .i64 (2), .int .i64 (7), .bool (false)])] (List.sublist_append_left _ _))))) (OS.now (o := (OT.fr rFareRule)) (l := [(⟨(⟨1, 0, 0, ()⟩ : FareCond), 2, 7, false⟩ : FareRule)]) (hs := [(g29, Cl 61 [.int .i64 (1), .int .i64 (0), .int .i64 (0), .slice none 0 0, .int .i64 (2), .int .i64 (7), .bool (false)])]) h34 ho (.cons _ (sub_skip [(g35, Cl 3 [.int .i64 (1)])] (List.sublist_append_left _ _)))) (OS.now (o := (OT.fr (RT.int .i64))) (l := [1]) (hs := [(g35, Cl 3 [.int .i64 (1)])]) h37 ho (.cons _ (List.sublist_append_left _ _))) x38 x39 l40 hcl41)) ?_
  rintro _ _ ⟨_, _, rfl, A42, c43, hs44, rfl, hq47, h45⟩
  obtain rfl := List.append_cancel_right hq47
  have h46 := flat_fz (w' := b.w) (fun _ _ _ _ h => h) h45
  refine t_mv rfl rfl ?_
  refine t_st rfl (st_extract rfl rfl) ?_
  refine t_st rfl (st_extract rfl rfl) ?_
  refine t_st rfl (st_extract rfl rfl) ?_
  refine t_as rfl rfl ?_
  refine t_as rfl rfl ?_
  refine t_as rfl rfl ?_
  refine t_ne ?_
  obtain ⟨x51, hj52, hk52⟩ := bindS hm
  refine c_join (fun b49 e' hp' => [(0, .bool (x51))] = e' ∧ R = hp' ∧ b.Le b49) ?_ ?_
  ·
   have hm := hj52
   refine c_region ?_
   refine t_mv rfl rfl ?_
   refine t_bool rfl (st_eql rfl rfl) (fun hc53 => ?_) (fun hc53 => ?_)
   ·
    rw [if_pos hc53] at hm
    refine t_mv rfl rfl ?_
    refine t_yes 21 rfl rfl rfl ?_
    refine t_mv rfl rfl ?_
    refine t_yes 21 rfl rfl rfl ?_
    refine t_st rfl (st_eql rfl rfl) ?_
    refine t_st rfl (st_pick_t rfl rfl) ?_
    refine t_as rfl rfl ?_
    refine t_nil ?_
    obtain rfl := some1 hm
    exact x_join (e' := [(0, .bool (decide (x38 = 493)))]) ⟨rfl, trivial⟩ (.cons _ (sub_skip hs44 (sub_skip [(g35, Cl 3 [.int .i64 (1)])] (sub_skip [(g29, Cl 61 [.int .i64 (1), .int .i64 (0), .int .i64 (0), .slice none 0 0, .int .i64 (2), .int .i64 (7), .bool (false)])] (sub_skip [(g28, Cl 56 [.int .i64 (3), .int .i64 (500)])] (.refl _)))))) ⟨rfl, rfl, (Base.Le.refl _)⟩
   ·
    rw [if_neg hc53] at hm
    refine t_mv rfl rfl ?_
    refine t_no 21 rfl rfl rfl rfl rfl ?_
    refine t_no 21 rfl rfl rfl rfl rfl ?_
    refine t_st rfl (st_pick_f rfl rfl) ?_
    refine t_as rfl rfl ?_
    refine t_nil ?_
    obtain rfl := some1 hm
    exact x_join (e' := [(0, .bool (false))]) ⟨rfl, trivial⟩ (.cons _ (sub_skip hs44 (sub_skip [(g35, Cl 3 [.int .i64 (1)])] (sub_skip [(g29, Cl 61 [.int .i64 (1), .int .i64 (0), .int .i64 (0), .slice none 0 0, .int .i64 (2), .int .i64 (7), .bool (false)])] (sub_skip [(g28, Cl 56 [.int .i64 (3), .int .i64 (500)])] (.refl _)))))) ⟨rfl, rfl, (Base.Le.refl _)⟩
  ·
   rintro b49 _ _ ⟨rfl, rfl, hle50⟩
   have hm := hk52
   refine c_ret ?_
   obtain rfl := some1 hm
   exact retM (rs := [.tmp 0]) [.bool (x51)] hle50 (by decide) rfl ⟨rfl, trivial⟩ rfl (.refl _) ⟨rfl, rfl⟩

set_option maxRecDepth 20000 in
theorem cFareCarCancel (b : Base) (R : Hp) (x12 : Int) (x13 : Int) (x14 : Int) (x15 : Int) (l16 : (List FareBooking)) (l18 : (List Bool)) (g11 : Nat) (A3 : Option Addr) (c4 : Nat) (hs2 : Hp) (A8 : Option Addr) (c9 : Nat) (hs7 : Hp) (h5 : OS 32 (OT.fr rFareBooking) b.w (.slice A3 l16.length c4) l16 hs2) (hnz17 : (A3 = none ↔ l16 = [])) (h10 : OS 4 (OT.fr RT.bool) b.w (.slice A8 l18.length c9) l18 hs7) (hnz19 : (A8 = none ↔ l18 = [])) (x86 : Int) (l87 : (List Bool)) (hm : mFareCarCancel x12 x13 x14 x15 l16 l18 = some (x86, l87)) :
    CallsG Tryz.prog 7 [.pointer (some ⟨g11, 0, none⟩), .int .i64 (x12)] b ((g11, Cl 54 [.int .i64 (x13), .int .i64 (x14), .int .i64 (x15), .slice A3 (l16).length c4, .slice A8 (l18).length c9]) :: (hs2 ++ (hs7 ++ R))) (fun v b' hp' => ∃ (hs84 : Hp), .int .i64 (x86) = v ∧ (g11, Cl 54 [.int .i64 (x13), .int .i64 (x14), .int .i64 (x15), .slice A3 (l16).length c4, .slice A8 (l87).length c9]) :: (hs2 ++ (hs84 ++ R)) = hp' ∧ OS 4 (OT.fr RT.bool) b'.w (.slice A8 l87.length c9) l87 hs84 ∧ l87.length = l18.length ∧ (A8 = none ↔ l87 = [])) := by
  refine fn_enterG 29 Tryz.func7 rfl Tryz.ntmps7 rfl ?_
  unfold mFareCarCancel at hm
  refine c_sr ?_
  refine t_as rfl rfl ?_
  refine t_ne ?_
  refine c_seq ?_
  obtain ⟨x112, hj113, hk113⟩ := bindS hm
  refine c_join (fun b110 e' hp' => [(0, .pointer (some ⟨g11, 0, none⟩)), (1, .int .i64 (x12)), (22, .bool (x112))] = e' ∧ (g11, Cl 54 [.int .i64 (x13), .int .i64 (x14), .int .i64 (x15), .slice A3 (l16).length c4, .slice A8 (l18).length c9]) :: (hs2 ++ (hs7 ++ R)) = hp' ∧ b.Le b110) ?_ ?_
  ·
   have hm := hj113
   refine c_region ?_
   refine t_mv rfl rfl ?_
   refine t_mv rfl rfl ?_
   refine t_st rfl (st_nil rfl) ?_
   refine t_st rfl (st_field rfl fld54_3) ?_
   refine t_st rfl (st_load 0 rfl one37 rfl rfl) ?_
   refine t_st rfl (st_len rfl sl37) ?_
   obtain ⟨_, h114, hm⟩ := bindS hm
   have h114 := (chk_some h114).2
   refine t_st rfl (st_sub rfl rfl h114) ?_
   obtain ⟨x115, hcl116, hm⟩ := bindS hm
   refine t_do rfl (u_callW0 _ call16 rfl (fun w ho => cFareWithin _ [] x12 0 ((l16.length : Int) - 1) x115 hcl116) (fun _ _ _ h => h.2.symm)) ?_
   rintro _ _ ⟨⟨_, rfl, _⟩, rfl⟩
   rcases Bool.eq_false_or_eq_true x115 with hc117 | hc117
   ·
    rw [if_pos hc117] at hm
    refine t_resp 12 rfl (v' := .bool true) (by rw [hc117] <;> rfl) ?_
    refine t_st rfl (st_not_t rfl) ?_
    refine t_mv rfl rfl ?_
    refine t_yes 14 rfl rfl rfl ?_
    refine t_mv rfl rfl ?_
    refine t_yes 14 rfl rfl rfl ?_
    refine t_st rfl (st_nil rfl) ?_
    refine t_yes 14 rfl rfl rfl ?_
    refine t_st rfl (st_field rfl fld54_4) ?_
    refine t_yes 14 rfl rfl rfl ?_
    refine t_st rfl (st_load 0 rfl one52 rfl rfl) ?_
    refine t_yes 14 rfl rfl rfl ?_
    refine t_mv rfl rfl ?_
    refine t_yes 14 rfl rfl rfl ?_
    obtain ⟨x118, h119, hm⟩ := bindS hm
    obtain ⟨j120, hj121, hx122⟩ := idx_some h119
    obtain ⟨cs123, hs128, P129, P130, hq131, hr124, hcs125, hA126, hlt127, hb132, hho133⟩ := OS.get (sz := 1) rfl (by decide) h10 hx122
    obtain ⟨rfl, rfl⟩ := hr124
    refine t_st rfl (st_index_old j120 rfl rfl hj121 hlt127 hA126 sl52) ?_
    refine t_yes 14 rfl rfl rfl ?_
    refine t_st rfl (st_load_rd rfl one4 (fun w ho => hcs125 w _ ho (.cons _ (sub_skip hs2 (List.sublist_append_left _ _))) 0 _ rfl)) ?_
    refine t_st rfl (st_pick_f rfl rfl) ?_
    refine t_nil ?_
    obtain rfl := some1 hm
    refine x_front2 [_] hs2 hs7 R rfl ?_
    refine x_front2 [_] hs7 hs2 R rfl ?_
    exact x_join (e' := [(0, .pointer (some ⟨g11, 0, none⟩)), (1, .int .i64 (x12)), (22, .bool (x118))]) ⟨rfl, rfl, rfl, trivial⟩ (.refl _) ⟨rfl, rfl, (Base.Le.refl _)⟩
   ·
    rw [if_neg (fun hh => Bool.noConfusion (hh.symm.trans hc117))] at hm
    refine t_resp 12 rfl (v' := .bool false) (by rw [hc117] <;> rfl) ?_
    refine t_st rfl (st_not_f rfl) ?_
    refine t_mv rfl rfl ?_
    refine t_no 14 rfl rfl rfl rfl rfl ?_
    refine t_no 14 rfl rfl rfl rfl rfl ?_
    refine t_no 14 rfl rfl rfl rfl rfl ?_
    refine t_no 14 rfl rfl rfl rfl rfl ?_
    refine t_no 14 rfl rfl rfl rfl rfl ?_
    refine t_no 14 rfl rfl rfl rfl rfl ?_
    refine t_no 14 rfl rfl rfl rfl rfl ?_
    refine t_st rfl (st_pick_t rfl rfl) ?_
    refine t_nil ?_
    obtain rfl := some1 hm
    refine x_front2 [_] hs2 hs7 R rfl ?_
    refine x_front2 [_] hs7 hs2 R rfl ?_
    exact x_join (e' := [(0, .pointer (some ⟨g11, 0, none⟩)), (1, .int .i64 (x12)), (22, .bool (true))]) ⟨rfl, rfl, rfl, trivial⟩ (.refl _) ⟨rfl, rfl, (Base.Le.refl _)⟩
  ·
   rintro b110 _ _ ⟨rfl, rfl, hle111⟩
   have hm := hk113
   refine c_cond _ rfl (fun hc134 => ?_) (fun hc134 => ?_)
   ·
    rw [if_pos hc134] at hm
    refine c_sr ?_
    refine t_as rfl rfl ?_
    refine t_ne ?_
    refine c_ret ?_
    refine x_then_ret ?_
    obtain ⟨rfl, rfl⟩ := some2 hm
    refine x_front2 [_] hs2 hs7 R rfl ?_
    refine x_front2 [_] hs7 hs2 R rfl ?_
    have he135 := (h10.le hle111)
    exact retM (rs := [.tmp 4]) [.int .i64 (9)] hle111 (by decide) rfl ⟨rfl, trivial⟩ rfl (.refl _) ⟨hs7, rfl, rfl, he135, rfl, hnz19⟩
   ·
    rw [if_neg (fun hh => Bool.noConfusion (hh.symm.trans hc134))] at hm
    refine c_skip ?_
    refine x_then_normal ?_
    refine c_sr ?_
    refine t_mv rfl rfl ?_
    refine t_st rfl (st_nil rfl) ?_
    refine t_st rfl (st_field rfl fld54_4) ?_
    refine t_st rfl (st_load 0 rfl one52 rfl rfl) ?_
    refine t_mv rfl rfl ?_
    obtain ⟨x136, h137, hm⟩ := bindS hm
    obtain ⟨j138, hj139, hx140⟩ := idx_some h137
    obtain ⟨cs141, hs146, P147, P148, hq149, hr142, hcs143, hA144, hlt145, hb150, hho151⟩ := OS.get (sz := 1) rfl (by decide) (h10.le hle111) hx140
    obtain ⟨rfl, rfl⟩ := hr142
    refine t_st rfl (st_index_old j138 rfl rfl hj139 hlt145 hA144 sl52) ?_
    refine t_front2 [_] hs2 hs7 R rfl ?_
    refine t_do rfl (u_putOS hj139 (sz := 1) (a' := true) rfl [_] (hs2 ++ R) 0 1 [.bool (true)] rfl (h10.le hle111) hx140 rfl rfl rfl siz4 rfl (mem_c rfl mem_n) (fun cs hsj hh => by obtain ⟨rfl, rfl⟩ := hh; exact ⟨by decide, rfl, rfl⟩)) ?_
    rintro _ _ ⟨hs152, rfl, h153⟩
    refine t_hresp 0 rfl (o' := Cl 54 [.int .i64 (x13), .int .i64 (x14), .int .i64 (x15), .slice A3 (l16).length c4, .slice A8 (put l18 x12 true).length c9]) (by simp only [put_length]) ?_
    refine t_ne ?_
    refine c_sr ?_
    refine t_as rfl rfl ?_
    refine t_ne ?_
    refine c_ret ?_
    obtain ⟨rfl, rfl⟩ := some2 hm
    refine x_front2 [_] hs152 hs2 R rfl ?_
    exact retM (rs := [.tmp 4]) [.int .i64 (0)] hle111 (by decide) rfl ⟨rfl, trivial⟩ rfl (.refl _) ⟨hs152, rfl, rfl, h153, ((put_length _ _ _).trans rfl), (put_nz hnz19)⟩

set_option maxRecDepth 20000 in
theorem cFareSpan (b : Base) (R : Hp) (x1 : Int) (x2 : Int) (x3 : Int) (x12 : Bool) (hm : mFareSpan x1 x2 x3 = some x12) :
    CallsG Tryz.prog 18 [.int .i64 (x1), .int .i64 (x2), .int .i64 (x3)] b (R) (fun v b' hp' => .bool (x12) = v ∧ R = hp') := by
  refine fn_enterG 19 Tryz.func18 rfl Tryz.ntmps18 rfl ?_
  unfold mFareSpan at hm
  refine c_sr ?_
  refine t_as rfl rfl ?_
  refine t_ne ?_
  obtain ⟨x17, hj18, hk18⟩ := bindS hm
  refine c_join (fun b15 e' hp' => [(6, .bool (x17))] = e' ∧ R = hp' ∧ b.Le b15) ?_ ?_
  ·
   have hm := hj18
   refine c_region ?_
   refine t_mv rfl rfl ?_
   refine t_bool rfl (st_geq rfl rfl) (fun hc19 => ?_) (fun hc19 => ?_)
   ·
    rw [if_pos hc19] at hm
    refine t_mv rfl rfl ?_
    refine t_yes 9 rfl rfl rfl ?_
    refine t_mv rfl rfl ?_
    refine t_yes 9 rfl rfl rfl ?_
    refine t_mv rfl rfl ?_
    refine t_yes 9 rfl rfl rfl ?_
    refine t_bool rfl (st_lss rfl rfl) (fun hc20 => ?_) (fun hc20 => ?_)
    ·
     rw [if_pos hc20] at hm
     refine t_st rfl (st_pick_t rfl rfl) ?_
     refine t_mv rfl rfl ?_
     refine t_yes 14 rfl rfl rfl ?_
     refine t_mv rfl rfl ?_
     refine t_yes 14 rfl rfl rfl ?_
     refine t_mv rfl rfl ?_
     refine t_yes 14 rfl rfl rfl ?_
     refine t_st rfl (st_lss rfl rfl) ?_
     refine t_st rfl (st_pick_t rfl rfl) ?_
     refine t_as rfl rfl ?_
     refine t_nil ?_
     obtain rfl := some1 hm
     exact x_join (e' := [(6, .bool (decide (x2 < x3)))]) ⟨rfl, trivial⟩ (.refl _) ⟨rfl, rfl, (Base.Le.refl _)⟩
    ·
     rw [if_neg hc20] at hm
     refine t_st rfl (st_pick_t rfl rfl) ?_
     refine t_mv rfl rfl ?_
     refine t_no 14 rfl rfl rfl rfl rfl ?_
     refine t_no 14 rfl rfl rfl rfl rfl ?_
     refine t_no 14 rfl rfl rfl rfl rfl ?_
     refine t_st rfl (st_pick_f rfl rfl) ?_
     refine t_as rfl rfl ?_
     refine t_nil ?_
     obtain rfl := some1 hm
     exact x_join (e' := [(6, .bool (false))]) ⟨rfl, trivial⟩ (.refl _) ⟨rfl, rfl, (Base.Le.refl _)⟩
   ·
    rw [if_neg hc19] at hm
    refine t_mv rfl rfl ?_
    refine t_no 9 rfl rfl rfl rfl rfl ?_
    refine t_no 9 rfl rfl rfl rfl rfl ?_
    refine t_no 9 rfl rfl rfl rfl rfl ?_
    refine t_st rfl (st_pick_f rfl rfl) ?_
    refine t_mv rfl rfl ?_
    refine t_no 14 rfl rfl rfl rfl rfl ?_
    refine t_no 14 rfl rfl rfl rfl rfl ?_
    refine t_no 14 rfl rfl rfl rfl rfl ?_
    refine t_st rfl (st_pick_f rfl rfl) ?_
    refine t_as rfl rfl ?_
    refine t_nil ?_
    obtain rfl := some1 hm
    exact x_join (e' := [(6, .bool (false))]) ⟨rfl, trivial⟩ (.refl _) ⟨rfl, rfl, (Base.Le.refl _)⟩
  ·
   rintro b15 _ _ ⟨rfl, rfl, hle16⟩
   have hm := hk18
   refine c_ret ?_
   obtain rfl := some1 hm
   exact retM (rs := [.tmp 6]) [.bool (x17)] hle16 (by decide) rfl ⟨rfl, trivial⟩ rfl (.refl _) ⟨rfl, rfl⟩

set_option maxRecDepth 20000 in
theorem cFareCarOf (b : Base) (R : Hp) (x12 : Int) (x13 : Int) (x14 : Int) (x15 : Int) (l16 : (List FareBooking)) (l18 : (List Bool)) (g11 : Nat) (A3 : Option Addr) (c4 : Nat) (hs2 : Hp) (A8 : Option Addr) (c9 : Nat) (hs7 : Hp) (h5 : OS 32 (OT.fr rFareBooking) b.w (.slice A3 l16.length c4) l16 hs2) (hnz17 : (A3 = none ↔ l16 = [])) (h10 : OS 4 (OT.fr RT.bool) b.w (.slice A8 l18.length c9) l18 hs7) (hnz19 : (A8 = none ↔ l18 = [])) (l252 : (List FareBooking)) (hm : mFareCarOf x12 x13 x14 x15 l16 l18 = some l252) :
    CallsG Tryz.prog 34 [.pointer (some ⟨g11, 0, none⟩), .int .i64 (x12)] b ((g11, Cl 54 [.int .i64 (x13), .int .i64 (x14), .int .i64 (x15), .slice A3 (l16).length c4, .slice A8 (l18).length c9]) :: (hs2 ++ (hs7 ++ R))) (fun v b' hp' => ∃ (A249 : Option Addr), ∃ (c250 : Nat), ∃ (hs248 : Hp), .slice A249 (l252).length c250 = v ∧ (g11, Cl 54 [.int .i64 (x13), .int .i64 (x14), .int .i64 (x15), .slice A3 (l16).length c4, .slice A8 (l18).length c9]) :: (hs248 ++ (hs2 ++ (hs7 ++ R))) = hp' ∧ OS 32 (OT.fr rFareBooking) b'.w (.slice A249 l252.length c250) l252 hs248) := by
  refine fn_enterG 38 Tryz.func34 rfl Tryz.ntmps34 rfl ?_
  unfold mFareCarOf at hm
  refine c_sr ?_
  refine t_as rfl rfl ?_
  refine t_ne ?_
  refine c_sr ?_
  refine t_as rfl rfl ?_
  refine t_ne ?_
  refine c_seq ?_
  refine c_sr ?_
  refine t_mv rfl rfl ?_
  refine t_st rfl (st_nil rfl) ?_
  refine t_st rfl (st_field rfl fld54_3) ?_
  refine t_st rfl (st_load 0 rfl one37 rfl rfl) ?_
  refine t_st rfl (st_len rfl sl37) ?_
  refine t_mv rfl rfl ?_
  refine t_ne ?_
  refine c_block ?_
  have hb254 : l16.length ≤ 9223372036854775807 := (OS.len h5)
  refine c_front2 [_] hs2 hs7 R rfl ?_
  refine c_front2 [_] hs7 hs2 R rfl ?_
  obtain ⟨l407, hl409, hk410⟩ := bindS hm
  refine c_forS (fun k408 => fun l407 => fun b400 e' hp' => ∃ (A404 : Option Addr), ∃ (c405 : Nat), ∃ (hs403 : Hp), [(0, .pointer (some ⟨g11, 0, none⟩)), (1, .int .i64 (x12)), (5, .slice A404 (l407).length c405), (11, .slice A3 (l16).length c4), (12, .int .i64 ((l16.length : Int))), (13, .int .i64 ((k408 : Int)))] = e' ∧ (g11, Cl 54 [.int .i64 (x13), .int .i64 (x14), .int .i64 (x15), .slice A3 (l16).length c4, .slice A8 (l18).length c9]) :: (hs403 ++ (hs2 ++ (hs7 ++ R))) = hp' ∧ b.Le b400 ∧ OS 32 (OT.fr rFareBooking) b400.w (.slice A404 l407.length c405) l407 hs403) hl409 (e' := [(0, .pointer (some ⟨g11, 0, none⟩)), (1, .int .i64 (x12)), (5, .slice none 0 0), (11, .slice A3 (l16).length c4), (12, .int .i64 ((l16.length : Int))), (13, .int .i64 0)]) ⟨rfl, rfl, rfl, rfl, rfl, rfl, trivial⟩ (.refl _) ⟨none, 0, [], rfl, rfl, (Base.Le.refl _), OS.nil⟩ ?_ ?_
  ·
   rintro k408 l407 b400 _ _ oL253 hknL253 ⟨A404, c405, hs403, rfl, rfl, hle401, h406⟩ hstepL253
   unfold mFareCarOf_L253 at hstepL253
   have hm := hstepL253
   refine c_sr ?_
   refine t_st rfl (st_lss_t rfl rfl (by omega)) ?_
   refine t_ne ?_
   refine c_seq ?_
   refine c_cond_t rfl ?_
   refine c_skip ?_
   refine x_then_normal ?_
   refine c_seq ?_
   refine c_block ?_
   refine c_sr ?_
   refine t_mv rfl rfl ?_
   obtain ⟨x411, h412, hm⟩ := bindS hm
   obtain ⟨j413, hj414, hx415⟩ := idx_some h412
   obtain ⟨cs416, hs421, P422, P423, hq424, hr417, hcs418, hA419, hlt420, hb425, hho426⟩ := OS.get (sz := 4) rfl (by decide) (h5.le hle401) hx415
   obtain ⟨⟨_, _, rfl, rfl, ⟨_, _, rfl, rfl, ⟨_, _, rfl, rfl, ⟨A427, c428, rfl, h429⟩⟩⟩⟩, rfl⟩ := hr417
   refine t_st rfl (st_index_old j413 rfl rfl hj414 hlt420 hA419 sl37) ?_
   refine t_st rfl (st_loadN_rd (vs := [.int .i64 (x411.No), .int .i64 (x411.From), .int .i64 (x411.To), .slice A427 (x411.Seats).length c428]) 4 rfl agg32 hA419 rfl (fun w ho j u hu => hcs418 w _ ho (.cons _ (sub_skip hs403 (List.sublist_append_left _ _))) j u hu)) ?_
   refine t_do rfl (u_alloc [.int .i64 0, .int .i64 0, .int .i64 0, .slice none 0 0] zero32 rfl) ?_
   rintro _ _ ⟨g430, rfl, rfl⟩
   refine t_as rfl rfl ?_
   refine t_do rfl (u_storeN (vs := [_, _, _, _]) 0 4 rfl rfl rfl siz32 rfl (mem_c rfl (mem_c rfl (mem_c rfl (mem_c rfl mem_n)))) rfl (by simp)) ?_
   rintro _ _ rfl
   refine t_ne ?_
   obtain ⟨x452, hj453, hk453⟩ := bindS hm
   refine c_join (fun b450 e' hp' => [(0, .pointer (some ⟨g11, 0, none⟩)), (1, .int .i64 (x12)), (5, .slice A404 (l407).length c405), (7, .pointer (some ⟨g430, 0, none⟩)), (11, .slice A3 (l16).length c4), (12, .int .i64 ((l16.length : Int))), (13, .int .i64 ((k408 : Int))), (31, .bool (x452))] = e' ∧ (g11, Cl 54 [.int .i64 (x13), .int .i64 (x14), .int .i64 (x15), .slice A3 (l16).length c4, .slice A8 (l18).length c9]) :: (g430, Cl 32 [.int .i64 (x411.No), .int .i64 (x411.From), .int .i64 (x411.To), .slice A427 (x411.Seats).length c428]) :: (hs403 ++ (hs2 ++ (hs7 ++ R))) = hp' ∧ b400.Le b450) ?_ ?_
   ·
    have hm := hj453
    refine c_region ?_
    refine t_mv rfl rfl ?_
    refine t_st rfl (st_nil rfl) ?_
    refine t_st rfl (st_field rfl fld54_4) ?_
    refine t_st rfl (st_load 1 rfl one52 rfl rfl) ?_
    refine t_mv rfl rfl ?_
    obtain ⟨x454, h455, hm⟩ := bindS hm
    obtain ⟨j456, hj457, hx458⟩ := idx_some h455
    obtain ⟨cs459, hs464, P465, P466, hq467, hr460, hcs461, hA462, hlt463, hb468, hho469⟩ := OS.get (sz := 1) rfl (by decide) (h10.le hle401) hx458
    obtain ⟨rfl, rfl⟩ := hr460
    refine t_st rfl (st_index_old j456 rfl rfl hj457 hlt463 hA462 sl52) ?_
    refine t_st rfl (st_load_rd rfl one4 (fun w ho => hcs461 w _ ho (.cons _ (.cons _ (sub_skip hs403 (sub_skip hs2 (List.sublist_append_left _ _))))) 0 _ rfl)) ?_
    rcases Bool.eq_false_or_eq_true x454 with hc470 | hc470
    ·
     rw [if_pos hc470] at hm
     refine t_resp 24 rfl (v' := .bool true) (by rw [hc470] <;> rfl) ?_
     refine t_st rfl (st_not_t rfl) ?_
     refine t_mv rfl rfl ?_
     refine t_no 26 rfl rfl rfl rfl rfl ?_
     refine t_no 26 rfl rfl rfl rfl rfl ?_
     refine t_no 26 rfl rfl rfl rfl rfl ?_
     refine t_no 26 rfl rfl rfl rfl rfl ?_
     refine t_st rfl (st_pick_f rfl rfl) ?_
     refine t_nil ?_
     obtain rfl := some1 hm
     refine x_pullb 1 rfl ?_
     refine x_front3 [_, _] hs403 hs2 hs7 R rfl ?_
     refine x_front3 [_, _] hs7 hs403 hs2 R rfl ?_
     refine x_front3 [_, _] hs2 hs7 hs403 R rfl ?_
     exact x_join (e' := [(0, .pointer (some ⟨g11, 0, none⟩)), (1, .int .i64 (x12)), (5, .slice A404 (l407).length c405), (7, .pointer (some ⟨g430, 0, none⟩)), (11, .slice A3 (l16).length c4), (12, .int .i64 ((l16.length : Int))), (13, .int .i64 ((k408 : Int))), (31, .bool (false))]) ⟨rfl, rfl, rfl, rfl, rfl, rfl, rfl, rfl, trivial⟩ (.refl _) ⟨rfl, rfl, (Base.Le.refl _)⟩
    ·
     rw [if_neg (fun hh => Bool.noConfusion (hh.symm.trans hc470))] at hm
     refine t_resp 24 rfl (v' := .bool false) (by rw [hc470] <;> rfl) ?_
     refine t_st rfl (st_not_f rfl) ?_
     refine t_mv rfl rfl ?_
     refine t_yes 26 rfl rfl rfl ?_
     refine t_st rfl (st_field rfl fld32_3) ?_
     refine t_yes 26 rfl rfl rfl ?_
     refine t_st rfl (st_load 0 rfl one22 rfl rfl) ?_
     refine t_yes 26 rfl rfl rfl ?_
     refine t_mv rfl rfl ?_
     refine t_yes 26 rfl rfl rfl ?_
     obtain ⟨x471, hcl472, hm⟩ := bindS hm
     refine t_do rfl (u_callW0 _ call10 rfl (fun w ho => cSlicesContains _ [] x411.Seats x12 A427 c428 (h429.old ho) x471 hcl472) (fun _ _ _ h => h.2.symm)) ?_
     rintro _ _ ⟨⟨_, rfl, _⟩, rfl⟩
     refine t_st rfl (st_pick_t rfl rfl) ?_
     refine t_nil ?_
     obtain rfl := some1 hm
     refine x_pullb 1 rfl ?_
     refine x_front3 [_, _] hs403 hs2 hs7 R rfl ?_
     refine x_front3 [_, _] hs7 hs403 hs2 R rfl ?_
     refine x_front3 [_, _] hs2 hs7 hs403 R rfl ?_
     exact x_join (e' := [(0, .pointer (some ⟨g11, 0, none⟩)), (1, .int .i64 (x12)), (5, .slice A404 (l407).length c405), (7, .pointer (some ⟨g430, 0, none⟩)), (11, .slice A3 (l16).length c4), (12, .int .i64 ((l16.length : Int))), (13, .int .i64 ((k408 : Int))), (31, .bool (x471))]) ⟨rfl, rfl, rfl, rfl, rfl, rfl, rfl, rfl, trivial⟩ (.refl _) ⟨rfl, rfl, (Base.Le.refl _)⟩
   ·
    rintro b450 _ _ ⟨rfl, rfl, hle451⟩
    have hm := hk453
    refine c_cond _ rfl (fun hc473 => ?_) (fun hc473 => ?_)
    ·
     rw [if_pos hc473] at hm
     refine c_region ?_
     refine t_mv rfl rfl ?_
     refine t_st rfl (st_loadD (vs := [_, _, _, _]) 1 4 rfl agg32 rfl rfl rfl) ?_
     refine t_do rfl (u_bslice (el := 32) [(0, .agg #[.int .i64 (x411.No), .int .i64 (x411.From), .int .i64 (x411.To), .slice A427 (x411.Seats).length c428])] [.int .i64 (x411.No), .int .i64 (x411.From), .int .i64 (x411.To), .slice A427 (x411.Seats).length c428] rfl (fun _ => by kernel_rfl)) ?_
     rintro _ _ ⟨g474, rfl, rfl⟩
     obtain ⟨_, h475, hm⟩ := bindS hm
     have h475 := room_some h475
     refine t_do rfl (u_appOS (r := rFareBooking) (l := l407) [_, _, _] (hs2 ++ (hs7 ++ R)) [[.int .i64 (x411.No), .int .i64 (x411.From), .int .i64 (x411.To), .slice A427 (x411.Seats).length c428]] [x411] rfl (by decide) sl37 inf32 rfl rfl rfl rfl (h406.le hle451) rfl (fun w ho => Rd.own (i := 0) ho rfl) ⟨⟨[.int .i64 (x411.No)], _, rfl, rfl, ⟨[.int .i64 (x411.From)], _, rfl, rfl, ⟨[.int .i64 (x411.To)], _, rfl, rfl, (RT.list_mk (h429.le hle451))⟩⟩⟩, trivial⟩ h475) ?_
     rintro _ _ ⟨hs476, rfl, h477⟩
     obtain ⟨A478, c479, rfl, _⟩ := h477.form
     refine t_as rfl rfl ?_
     refine t_nil ?_
     refine x_block_normal ?_
     refine x_then_normal ?_
     refine c_region ?_
     refine t_st rfl (st_add rfl rfl (by omega)) ?_
     refine t_mv rfl rfl ?_
     refine t_nil ?_
     refine x_pullb 1 rfl ?_
     refine x_front3 [_, _, _] hs476 hs2 hs7 R rfl ?_
     refine x_front3 [_, _, _] hs7 hs476 hs2 R rfl ?_
     refine x_front3 [_, _, _] hs2 hs7 hs476 R rfl ?_
     obtain rfl := some1 hm
     exact x_againS (e' := [(0, .pointer (some ⟨g11, 0, none⟩)), (1, .int .i64 (x12)), (5, .slice A478 (l407 ++ [x411]).length c479), (11, .slice A3 (l16).length c4), (12, .int .i64 ((l16.length : Int))), (13, .int .i64 ((k408 : Int) + 1))]) ⟨rfl, rfl, rfl, rfl, rfl, rfl, trivial⟩ (.cons_cons _ (.cons _ (.cons _ (.refl _)))) ⟨A478, c479, hs476, rfl, rfl, ((hle401.trans hle451)), h477⟩
    ·
     rw [if_neg (fun hh => Bool.noConfusion (hh.symm.trans hc473))] at hm
     refine c_skip ?_
     refine x_block_normal ?_
     refine x_then_normal ?_
     refine c_region ?_
     refine t_st rfl (st_add rfl rfl (by omega)) ?_
     refine t_mv rfl rfl ?_
     refine t_nil ?_
     refine x_front3 [_, _] hs403 hs2 hs7 R rfl ?_
     refine x_front3 [_, _] hs7 hs403 hs2 R rfl ?_
     refine x_front3 [_, _] hs2 hs7 hs403 R rfl ?_
     obtain rfl := some1 hm
     exact x_againS (e' := [(0, .pointer (some ⟨g11, 0, none⟩)), (1, .int .i64 (x12)), (5, .slice A404 (l407).length c405), (11, .slice A3 (l16).length c4), (12, .int .i64 ((l16.length : Int))), (13, .int .i64 ((k408 : Int) + 1))]) ⟨rfl, rfl, rfl, rfl, rfl, rfl, trivial⟩ (.cons_cons _ (.cons _ (.refl _))) ⟨A404, c405, hs403, rfl, rfl, ((hle401.trans hle451)), (h406.le hle451)⟩
  ·
   rintro b400 _ _ ⟨A404, c405, hs403, rfl, rfl, hle401, h406⟩
   have hm := hk410
   refine c_sr ?_
   refine t_st rfl (st_lss_f rfl rfl (by omega)) ?_
   refine t_ne ?_
   refine c_seq ?_
   refine c_cond_f rfl ?_
   refine c_exit ?_
   refine x_then_exit ?_
   refine x_then_exit ?_
   refine x_block_out ?_
   refine x_then_normal ?_
   refine c_sr ?_
   refine t_mv rfl rfl ?_
   refine t_as rfl rfl ?_
   refine t_ne ?_
   refine c_ret ?_
   obtain rfl := some1 hm
   refine x_front3 [_] hs403 hs2 hs7 R rfl ?_
   refine x_front3 [_] hs7 hs403 hs2 R rfl ?_
   refine x_front3 [_] hs2 hs7 hs403 R rfl ?_
   exact retM (rs := [.tmp 4]) [.slice A404 (l407).length c405] hle401 (by decide) rfl ⟨rfl, trivial⟩ rfl (.refl _) ⟨A404, c405, hs403, rfl, rfl, h406⟩

set_option maxRecDepth 20000 in
theorem cFareCarFree_1 (b : Base) (R : Hp) (s3 : FareBooking) (x7 : Int) (x8 : Int) (g1 : Nat) (g2 : Nat) (A4 : Option Addr) (c5 : Nat) (h6 : FZ (RT.int .i64) b.w A4 c5 s3.Seats) (x16 : Bool) (hm : mFareCarFree_1 s3 x7 x8 = some x16) :
    CallsG Tryz.prog 35 [.agg #[.int .i64 (s3.No), .int .i64 (s3.From), .int .i64 (s3.To), .slice A4 (s3.Seats).length c5], .pointer (some ⟨g1, 0, none⟩), .pointer (some ⟨g2, 0, none⟩)] b ((g1, Cl 3 [.int .i64 (x7)]) :: (g2, Cl 3 [.int .i64 (x8)]) :: R) (fun v b' hp' => .bool (x16) = v ∧ (g1, Cl 3 [.int .i64 (x7)]) :: (g2, Cl 3 [.int .i64 (x8)]) :: R = hp') := by
  refine fn_enterG 15 Tryz.func35 rfl Tryz.ntmps35 rfl ?_
  unfold mFareCarFree_1 at hm
  refine c_sr ?_
  refine t_do rfl (u_box _ rfl rfl) ?_
  rintro _ _ ⟨g17, rfl, rfl⟩
  refine t_as rfl rfl ?_
  refine t_ne ?_
  obtain ⟨x21, hj22, hk22⟩ := bindS hm
  refine c_join (fun b19 e' hp' => [(4, .bool (x21))] = e' ∧ (g1, Cl 3 [.int .i64 (x7)]) :: (g2, Cl 3 [.int .i64 (x8)]) :: R = hp' ∧ b.Le b19) ?_ ?_
  ·
   have hm := hj22
   refine c_region ?_
   refine t_st rfl (st_field rfl fld32_1) ?_
   refine t_st rfl (st_load 0 rfl one3 rfl rfl) ?_
   refine t_st rfl (st_load 1 rfl one3 rfl rfl) ?_
   refine t_bool rfl (st_lss rfl rfl) (fun hc23 => ?_) (fun hc23 => ?_)
   ·
    rw [if_pos hc23] at hm
    refine t_mv rfl rfl ?_
    refine t_yes 9 rfl rfl rfl ?_
    refine t_st rfl (st_field rfl fld32_2) ?_
    refine t_yes 9 rfl rfl rfl ?_
    refine t_st rfl (st_load 0 rfl one3 rfl rfl) ?_
    refine t_yes 9 rfl rfl rfl ?_
    refine t_st rfl (st_load 2 rfl one3 rfl rfl) ?_
    refine t_yes 9 rfl rfl rfl ?_
    refine t_st rfl (st_gtr rfl rfl) ?_
    refine t_st rfl (st_pick_t rfl rfl) ?_
    refine t_as rfl rfl ?_
    refine t_nil ?_
    obtain rfl := some1 hm
    refine x_pullb 2 rfl ?_
    refine x_pullb 2 rfl ?_
    exact x_join (e' := [(4, .bool (decide (x8 < s3.To)))]) ⟨rfl, trivial⟩ (.cons_cons _ (.cons_cons _ (.cons _ (.refl _)))) ⟨rfl, rfl, (Base.Le.refl _)⟩
   ·
    rw [if_neg hc23] at hm
    refine t_mv rfl rfl ?_
    refine t_no 9 rfl rfl rfl rfl rfl ?_
    refine t_no 9 rfl rfl rfl rfl rfl ?_
    refine t_no 9 rfl rfl rfl rfl rfl ?_
    refine t_no 9 rfl rfl rfl rfl rfl ?_
    refine t_st rfl (st_pick_f rfl rfl) ?_
    refine t_as rfl rfl ?_
    refine t_nil ?_
    obtain rfl := some1 hm
    refine x_pullb 2 rfl ?_
    refine x_pullb 2 rfl ?_
    exact x_join (e' := [(4, .bool (false))]) ⟨rfl, trivial⟩ (.cons_cons _ (.cons_cons _ (.cons _ (.refl _)))) ⟨rfl, rfl, (Base.Le.refl _)⟩
  ·
   rintro b19 _ _ ⟨rfl, rfl, hle20⟩
   have hm := hk22
   refine c_ret ?_
   obtain rfl := some1 hm
   refine x_pullb 1 rfl ?_
   refine x_pullb 1 rfl ?_
   exact retM (rs := [.tmp 4]) [.bool (x21)] hle20 (by decide) rfl ⟨rfl, trivial⟩ rfl (.refl _) ⟨rfl, rfl⟩

set_option maxRecDepth 20000 in
theorem cSlicesIndexFunc_4 (b : Base) (R : Hp) (x8 : Int) (x9 : Int) (l10 : (List FareBooking)) (g6 : Nat) (g7 : Nat) (A3 : Option Addr) (c4 : Nat) (hs2 : Hp) (h5 : OS 32 (OT.fr rFareBooking) b.w (.slice A3 l10.length c4) l10 hs2) (x69 : Int) (hm : mSlicesIndexFunc_4 x8 x9 l10 = some x69) :
    CallsG Tryz.prog 55 [.slice A3 (l10).length c4, .func (.func 35) #[] #[.pointer (some ⟨g6, 0, none⟩), .pointer (some ⟨g7, 0, none⟩)]] b ((g6, Cl 3 [.int .i64 (x8)]) :: (g7, Cl 3 [.int .i64 (x9)]) :: (hs2 ++ R)) (fun v b' hp' => .int .i64 (x69) = v ∧ (g6, Cl 3 [.int .i64 (x8)]) :: (g7, Cl 3 [.int .i64 (x9)]) :: (hs2 ++ R) = hp') := by
  refine fn_enterG 19 Tryz.func55 rfl Tryz.ntmps55 rfl ?_
  unfold mSlicesIndexFunc_4 at hm
  refine c_sr ?_
  refine t_as rfl rfl ?_
  refine t_ne ?_
  refine c_seq ?_
  refine c_sr ?_
  refine t_mv rfl rfl ?_
  refine t_st rfl (st_len rfl sl37) ?_
  refine t_mv rfl rfl ?_
  refine t_ne ?_
  refine c_block ?_
  have hb71 : l10.length ≤ 9223372036854775807 := (OS.len h5)
  refine c_pullb 1 rfl ?_
  refine c_pullb 1 rfl ?_
  obtain ⟨t99, hl100, hk101⟩ := bindS hm
  refine c_forM (fun k98 => fun _ => fun b96 e' hp' => [(0, .slice A3 (l10).length c4), (1, .func (.func 35) #[] #[.pointer (some ⟨g6, 0, none⟩), .pointer (some ⟨g7, 0, none⟩)]), (7, .int .i64 ((l10.length : Int))), (8, .int .i64 ((k98 : Int)))] = e' ∧ (g6, Cl 3 [.int .i64 (x8)]) :: (g7, Cl 3 [.int .i64 (x9)]) :: (hs2 ++ R) = hp' ∧ b.Le b96) hl100 (e' := [(0, .slice A3 (l10).length c4), (1, .func (.func 35) #[] #[.pointer (some ⟨g6, 0, none⟩), .pointer (some ⟨g7, 0, none⟩)]), (7, .int .i64 ((l10.length : Int))), (8, .int .i64 0)]) ⟨rfl, rfl, rfl, rfl, trivial⟩ (.refl _) ⟨rfl, rfl, (Base.Le.refl _)⟩ ?_ ?_
  ·
   rintro k98 _ b96 _ _ oL70 hknL70 ⟨rfl, rfl, hle97⟩ hstepL70 houtL70
   unfold mSlicesIndexFunc_4_L70 at hstepL70
   have hm := hstepL70
   refine c_sr ?_
   refine t_st rfl (st_lss_t rfl rfl (by omega)) ?_
   refine t_ne ?_
   refine c_seq ?_
   refine c_cond_t rfl ?_
   refine c_skip ?_
   refine x_then_normal ?_
   refine c_seq ?_
   refine c_block ?_
   refine c_sr ?_
   refine t_mv rfl rfl ?_
   refine t_as rfl rfl ?_
   refine t_ne ?_
   refine c_sr ?_
   refine t_mv rfl rfl ?_
   refine t_mv rfl rfl ?_
   refine t_mv rfl rfl ?_
   obtain ⟨x102, h103, hm⟩ := bindS hm
   obtain ⟨j104, hj105, hx106⟩ := idx_some h103
   obtain ⟨cs107, hs112, P113, P114, hq115, hr108, hcs109, hA110, hlt111, hb116, hho117⟩ := OS.get (sz := 4) rfl (by decide) (h5.le hle97) hx106
   obtain ⟨⟨_, _, rfl, rfl, ⟨_, _, rfl, rfl, ⟨_, _, rfl, rfl, ⟨A118, c119, rfl, h120⟩⟩⟩⟩, rfl⟩ := hr108
   refine t_st rfl (st_index_old j104 rfl rfl hj105 hlt111 hA110 sl37) ?_
   refine t_st rfl (st_loadN_rd (vs := [.int .i64 (x102.No), .int .i64 (x102.From), .int .i64 (x102.To), .slice A118 (x102.Seats).length c119]) 4 rfl agg32 hA110 rfl (fun w ho j u hu => hcs109 w _ ho (.cons _ (.cons _ (List.sublist_append_left _ _))) j u hu)) ?_
   obtain ⟨x121, hcl122, hm⟩ := bindS hm
   refine t_pullb 1 rfl ?_
   refine t_pullb 1 rfl ?_
   refine t_callvG #[] #[.pointer (some ⟨g6, 0, none⟩), .pointer (some ⟨g7, 0, none⟩)] [.agg #[.int .i64 (x102.No), .int .i64 (x102.From), .int .i64 (x102.To), .slice A118 (x102.Seats).length c119]] rfl rfl call35 rfl (cFareCarFree_1 _ _ x102 x8 x9 g6 g7 A118 c119 h120 x121 hcl122) ?_
   rintro _ b123 _ hle124 ⟨rfl, rfl⟩
   refine t_ne ?_
   refine c_cond _ rfl (fun hc125 => ?_) (fun hc125 => ?_)
   ·
    rw [if_pos hc125] at hm
    refine c_sr ?_
    refine t_mv rfl rfl ?_
    refine t_as rfl rfl ?_
    refine t_ne ?_
    refine c_ret ?_
    refine x_block_ret ?_
    refine x_then_ret ?_
    refine x_then_ret ?_
    refine x_block_ret ?_
    refine x_then_ret ?_
    have hq126 := houtL70 _ (Option.some.inj hm).symm
    rw [hq126] at hk101
    have hm := elimR hk101
    obtain rfl := some1 hm
    refine x_pullb 1 rfl ?_
    refine x_pullb 1 rfl ?_
    exact retM (rs := [.tmp 4]) [.int .i64 ((k98 : Int))] (hle97.trans hle124) (by decide) rfl ⟨rfl, trivial⟩ rfl (.refl _) ⟨rfl, rfl⟩
   ·
    rw [if_neg (fun hh => Bool.noConfusion (hh.symm.trans hc125))] at hm
    refine c_skip ?_
    refine x_block_normal ?_
    refine x_then_normal ?_
    refine c_region ?_
    refine t_st rfl (st_add rfl rfl (by omega)) ?_
    refine t_mv rfl rfl ?_
    refine t_nil ?_
    refine x_pullb 1 rfl ?_
    refine x_pullb 1 rfl ?_
    exact x_againM () (Option.some.inj hm).symm (e' := [(0, .slice A3 (l10).length c4), (1, .func (.func 35) #[] #[.pointer (some ⟨g6, 0, none⟩), .pointer (some ⟨g7, 0, none⟩)]), (7, .int .i64 ((l10.length : Int))), (8, .int .i64 ((k98 : Int) + 1))]) ⟨rfl, rfl, rfl, rfl, trivial⟩ (.refl _) ⟨rfl, rfl, ((hle97.trans hle124))⟩
  ·
   rintro _ b96 _ _ ⟨rfl, rfl, hle97⟩ hq127
   rw [hq127] at hk101
   have hm := elimL hk101
   refine c_sr ?_
   refine t_st rfl (st_lss_f rfl rfl (by omega)) ?_
   refine t_ne ?_
   refine c_seq ?_
   refine c_cond_f rfl ?_
   refine c_exit ?_
   refine x_then_exit ?_
   refine x_then_exit ?_
   refine x_block_out ?_
   refine x_then_normal ?_
   refine c_sr ?_
   refine t_as rfl rfl ?_
   refine t_ne ?_
   refine c_ret ?_
   obtain rfl := some1 hm
   refine x_pullb 1 rfl ?_
   refine x_pullb 1 rfl ?_
   exact retM (rs := [.tmp 4]) [.int .i64 ((-1))] hle97 (by decide) rfl ⟨rfl, trivial⟩ rfl (.refl _) ⟨rfl, rfl⟩

set_option maxRecDepth 20000 in
theorem cSlicesContainsFunc_3 (b : Base) (R : Hp) (x8 : Int) (x9 : Int) (l10 : (List FareBooking)) (g6 : Nat) (g7 : Nat) (A3 : Option Addr) (c4 : Nat) (hs2 : Hp) (h5 : OS 32 (OT.fr rFareBooking) b.w (.slice A3 l10.length c4) l10 hs2) (x15 : Bool) (hm : mSlicesContainsFunc_3 x8 x9 l10 = some x15) :
    CallsG Tryz.prog 33 [.slice A3 (l10).length c4, .func (.func 35) #[] #[.pointer (some ⟨g6, 0, none⟩), .pointer (some ⟨g7, 0, none⟩)]] b ((g6, Cl 3 [.int .i64 (x8)]) :: (g7, Cl 3 [.int .i64 (x9)]) :: (hs2 ++ R)) (fun v b' hp' => .bool (x15) = v ∧ (g6, Cl 3 [.int .i64 (x8)]) :: (g7, Cl 3 [.int .i64 (x9)]) :: (hs2 ++ R) = hp') := by
  refine fn_enterG 9 Tryz.func33 rfl Tryz.ntmps33 rfl ?_
  unfold mSlicesContainsFunc_3 at hm
  refine c_sr ?_
  refine t_as rfl rfl ?_
  refine t_ne ?_
  refine c_sr ?_
  refine t_mv rfl rfl ?_
  refine t_mv rfl rfl ?_
  obtain ⟨x16, hcl17, hm⟩ := bindS hm
  refine t_pullb 1 rfl ?_
  refine t_pullb 1 rfl ?_
  refine t_out1 [_, _] [] hs2 R rfl ?_
  refine t_callG _ rfl call55 rfl (cSlicesIndexFunc_4 _ _ x8 x9 l10 g6 g7 A3 c4 hs2 h5 x16 hcl17) ?_
  rintro _ b18 _ hle19 ⟨rfl, rfl⟩
  refine t_in1 [_, _] [] hs2 R rfl ?_
  refine t_st rfl (st_geq rfl rfl) ?_
  refine t_as rfl rfl ?_
  refine t_ne ?_
  refine c_ret ?_
  obtain rfl := some1 hm
  refine x_pullb 1 rfl ?_
  refine x_pullb 1 rfl ?_
  exact retM (rs := [.tmp 4]) [.bool (decide (0 ≤ x16))] hle19 (by decide) rfl ⟨rfl, trivial⟩ rfl (.refl _) ⟨rfl, rfl⟩

set_option maxRecDepth 20000 in
theorem cFareCarFree_2 (b : Base) (R : Hp) (x12 : Int) (x13 : Int) (x14 : Int) (x15 : Int) (x16 : Int) (l17 : (List FareBooking)) (l19 : (List Bool)) (g11 : Nat) (A3 : Option Addr) (c4 : Nat) (hs2 : Hp) (A8 : Option Addr) (c9 : Nat) (hs7 : Hp) (h5 : OS 32 (OT.fr rFareBooking) b.w (.slice A3 l17.length c4) l17 hs2) (hnz18 : (A3 = none ↔ l17 = [])) (h10 : OS 4 (OT.fr RT.bool) b.w (.slice A8 l19.length c9) l19 hs7) (hnz20 : (A8 = none ↔ l19 = [])) (l107 : (List Int)) (hm : mFareCarFree_2 x12 x13 x14 x15 x16 l17 l19 = some l107) :
    CallsG Tryz.prog 19 [.pointer (some ⟨g11, 0, none⟩), .int .i64 (x12), .int .i64 (x13)] b ((g11, Cl 54 [.int .i64 (x14), .int .i64 (x15), .int .i64 (x16), .slice A3 (l17).length c4, .slice A8 (l19).length c9]) :: (hs2 ++ (hs7 ++ R))) (fun v b' hp' => ∃ (A104 : Option Addr), ∃ (c105 : Nat), ∃ (hs103 : Hp), .slice A104 (l107).length c105 = v ∧ (g11, Cl 54 [.int .i64 (x14), .int .i64 (x15), .int .i64 (x16), .slice A3 (l17).length c4, .slice A8 (l19).length c9]) :: (hs103 ++ (hs2 ++ (hs7 ++ R))) = hp' ∧ OS 3 (OT.fr (RT.int .i64)) b'.w (.slice A104 l107.length c105) l107 hs103) := by
  refine fn_enterG 33 Tryz.func19 rfl Tryz.ntmps19 rfl ?_
  unfold mFareCarFree_2 at hm
  refine c_sr ?_
  refine t_do rfl (u_box _ rfl rfl) ?_
  rintro _ _ ⟨g108, rfl, rfl⟩
  refine t_do rfl (u_box _ rfl rfl) ?_
  rintro _ _ ⟨g109, rfl, rfl⟩
  refine t_as rfl rfl ?_
  refine t_ne ?_
  refine c_sr ?_
  refine t_as rfl rfl ?_
  refine t_ne ?_
  refine c_seq ?_
  refine c_seq ?_
  obtain ⟨_, h111, hm⟩ := bindS hm
  refine D_drawI mixed (.refl _) ?_
  refine E_s0 0 rfl (st_move rfl) ?_
  refine E_s0 1 rfl (st_nil rfl) ?_
  refine E_s0 2 rfl (st_field rfl fld54_0) ?_
  refine E_st 3 rfl (st_load 2 rfl one3 rfl rfl) ?_
  refine E_s0 4 rfl (st_move rfl) ?_
  refine E_s0 5 rfl (st_nil rfl) ?_
  refine E_s0 6 rfl (st_field rfl fld54_1) ?_
  refine E_st 7 rfl (st_load 2 rfl one3 rfl rfl) ?_
  have h111 := (chk_some h111).2
  refine E_s0 8 rfl (st_mul rfl rfl h111) ?_
  refine E_s0 9 rfl (st_move rfl) ?_
  refine E_out ?_
  refine D_done (by kernel_rfl) ?_
  refine x_then_normal ?_
  refine c_block ?_
  obtain ⟨_, h113, hm⟩ := bindS hm
  have h113 := (chk_some h113).2
  refine c_pullb 1 rfl ?_
  refine c_pullb 2 rfl ?_
  refine c_front2 [_, _, _] hs2 hs7 R rfl ?_
  refine c_front2 [_, _, _] hs7 hs2 R rfl ?_
  obtain ⟨l166, hl168, hk169⟩ := bindS hm
  refine c_forS (fun k167 => fun l166 => fun b159 e' hp' => ∃ (A163 : Option Addr), ∃ (c164 : Nat), ∃ (hs162 : Hp), [(0, .pointer (some ⟨g11, 0, none⟩)), (4, .pointer (some ⟨g108, 0, none⟩)), (5, .pointer (some ⟨g109, 0, none⟩)), (7, .slice A163 (l166).length c164), (17, .int .i64 (x14 * x15)), (18, .int .i64 ((k167 : Int)))] = e' ∧ (g11, Cl 54 [.int .i64 (x14), .int .i64 (x15), .int .i64 (x16), .slice A3 (l17).length c4, .slice A8 (l19).length c9]) :: (g108, Cl 3 [.int .i64 (x12)]) :: (g109, Cl 3 [.int .i64 (x13)]) :: (hs162 ++ (hs2 ++ (hs7 ++ R))) = hp' ∧ b.Le b159 ∧ OS 3 (OT.fr (RT.int .i64)) b159.w (.slice A163 l166.length c164) l166 hs162) hl168 (e' := [(0, .pointer (some ⟨g11, 0, none⟩)), (4, .pointer (some ⟨g108, 0, none⟩)), (5, .pointer (some ⟨g109, 0, none⟩)), (7, .slice none 0 0), (17, .int .i64 (x14 * x15)), (18, .int .i64 0)]) ⟨rfl, rfl, rfl, rfl, rfl, rfl, trivial⟩ (.refl _) ⟨none, 0, [], rfl, rfl, (Base.Le.refl _), OS.nil⟩ ?_ ?_
  ·
   rintro k167 l166 b159 _ _ oL112 hknL112 ⟨A163, c164, hs162, rfl, rfl, hle160, h165⟩ hstepL112
   unfold mFareCarFree_2_L112 at hstepL112
   have hm := hstepL112
   refine c_sr ?_
   refine t_st rfl (st_lss_t rfl rfl (by omega)) ?_
   refine t_ne ?_
   refine c_seq ?_
   refine c_cond_t rfl ?_
   refine c_skip ?_
   refine x_then_normal ?_
   refine c_seq ?_
   refine c_block ?_
   refine c_sr ?_
   refine t_mv rfl rfl ?_
   refine t_as rfl rfl ?_
   refine t_ne ?_
   refine c_sr ?_
   refine t_mv rfl rfl ?_
   refine t_mv rfl rfl ?_
   obtain ⟨l170, hcl171, hm⟩ := bindS hm
   refine t_front3 [_, _, _] hs162 hs2 hs7 R rfl ?_
   refine t_front3 [_, _, _] hs7 hs162 hs2 R rfl ?_
   refine t_out2 [_] [_, _] hs2 hs7 (hs162 ++ R) rfl ?_
   refine t_callG _ rfl call34 rfl (cFareCarOf _ _ (k167 : Int) x14 x15 x16 l17 l19 g11 A3 c4 hs2 A8 c9 hs7 (h5.le hle160) hnz18 (h10.le hle160) hnz20 l170 hcl171) ?_
   rintro _ b172 _ hle173 ⟨A174, c175, hs176, rfl, rfl, h177⟩
   refine t_in3 [_] [_, _] hs176 hs2 hs7 (hs162 ++ R) rfl ?_
   refine t_st rfl (st_func _ _ rfl rfl) ?_
   obtain ⟨x178, hcl179, hm⟩ := bindS hm
   refine t_pullb 1 rfl ?_
   refine t_pullb 2 rfl ?_
   refine t_out1 [_, _] [_] hs176 (hs2 ++ (hs7 ++ (hs162 ++ R))) rfl ?_
   refine t_callG _ rfl call33 rfl (cSlicesContainsFunc_3 _ _ x13 x12 l170 g109 g108 A174 c175 hs176 h177 x178 hcl179) ?_
   rintro _ b180 _ hle181 ⟨rfl, rfl⟩
   refine t_in1 [_, _] [_] hs176 (hs2 ++ (hs7 ++ (hs162 ++ R))) rfl ?_
   refine t_st rfl (st_not rfl) ?_
   refine t_ne ?_
   refine c_cond _ rfl (fun hc182 => ?_) (fun hc182 => ?_)
   ·
    rw [if_neg (fun hh => Bool.noConfusion (hh.symm.trans (notT hc182)))] at hm
    refine c_region ?_
    refine t_mv rfl rfl ?_
    refine t_mv rfl rfl ?_
    refine t_do rfl (u_bslice (el := 3) [(0, .int .i64 ((k167 : Int)))] [.int .i64 ((k167 : Int))] rfl (fun _ => by kernel_rfl)) ?_
    rintro _ _ ⟨g183, rfl, rfl⟩
    obtain ⟨_, h184, hm⟩ := bindS hm
    have h184 := room_some h184
    refine t_front4 [_, _, _, _] hs176 hs2 hs7 hs162 R rfl ?_
    refine t_do rfl (u_appOS (r := (RT.int .i64)) (l := l166) [_, _, _, _] (hs176 ++ (hs2 ++ (hs7 ++ R))) [[.int .i64 ((k167 : Int))]] [(k167 : Int)] rfl (by decide) sl22 inf3 rfl rfl rfl rfl (h165.le (hle173.trans hle181)) rfl (fun w ho => Rd.own (i := 0) ho rfl) ⟨rfl, trivial⟩ h184) ?_
    rintro _ _ ⟨hs185, rfl, h186⟩
    obtain ⟨A187, c188, rfl, _⟩ := h186.form
    refine t_as rfl rfl ?_
    refine t_nil ?_
    refine x_block_normal ?_
    refine x_then_normal ?_
    refine c_region ?_
    refine t_st rfl (st_add rfl rfl (by omega)) ?_
    refine t_mv rfl rfl ?_
    refine t_nil ?_
    refine x_pullb 1 rfl ?_
    refine x_pullb 2 rfl ?_
    refine x_pullb 3 rfl ?_
    refine x_front4 [_, _, _, _] hs185 hs176 hs2 hs7 R rfl ?_
    refine x_front4 [_, _, _, _] hs7 hs185 hs176 hs2 R rfl ?_
    refine x_front3 [_, _, _, _] hs2 hs7 hs185 (hs176 ++ R) rfl ?_
    obtain rfl := some1 hm
    exact x_againS (e' := [(0, .pointer (some ⟨g11, 0, none⟩)), (4, .pointer (some ⟨g108, 0, none⟩)), (5, .pointer (some ⟨g109, 0, none⟩)), (7, .slice A187 (l166 ++ [(k167 : Int)]).length c188), (17, .int .i64 (x14 * x15)), (18, .int .i64 ((k167 : Int) + 1))]) ⟨rfl, rfl, rfl, rfl, rfl, rfl, trivial⟩ (.cons_cons _ (.cons_cons _ (.cons_cons _ (.cons _ (sub_app hs185 (sub_app hs2 (sub_app hs7 (sub_skip hs176 (.refl _))))))))) ⟨A187, c188, hs185, rfl, rfl, ((hle160.trans (hle173.trans hle181))), h186⟩
   ·
    rw [if_pos (notF hc182)] at hm
    refine c_skip ?_
    refine x_block_normal ?_
    refine x_then_normal ?_
    refine c_region ?_
    refine t_st rfl (st_add rfl rfl (by omega)) ?_
    refine t_mv rfl rfl ?_
    refine t_nil ?_
    refine x_pullb 1 rfl ?_
    refine x_pullb 2 rfl ?_
    refine x_front3 [_, _, _] hs176 hs2 hs7 (hs162 ++ R) rfl ?_
    refine x_front3 [_, _, _] hs7 hs176 hs2 (hs162 ++ R) rfl ?_
    refine x_front4 [_, _, _] hs2 hs7 hs176 hs162 R rfl ?_
    obtain rfl := some1 hm
    exact x_againS (e' := [(0, .pointer (some ⟨g11, 0, none⟩)), (4, .pointer (some ⟨g108, 0, none⟩)), (5, .pointer (some ⟨g109, 0, none⟩)), (7, .slice A163 (l166).length c164), (17, .int .i64 (x14 * x15)), (18, .int .i64 ((k167 : Int) + 1))]) ⟨rfl, rfl, rfl, rfl, rfl, rfl, trivial⟩ (.cons_cons _ (.cons_cons _ (.cons_cons _ (sub_app hs162 (sub_app hs2 (sub_app hs7 (sub_skip hs176 (.refl _)))))))) ⟨A163, c164, hs162, rfl, rfl, ((hle160.trans (hle173.trans hle181))), (h165.le (hle173.trans hle181))⟩
  ·
   rintro b159 _ _ ⟨A163, c164, hs162, rfl, rfl, hle160, h165⟩
   have hm := hk169
   refine c_sr ?_
   refine t_st rfl (st_lss_f rfl rfl (by omega)) ?_
   refine t_ne ?_
   refine c_seq ?_
   refine c_cond_f rfl ?_
   refine c_exit ?_
   refine x_then_exit ?_
   refine x_then_exit ?_
   refine x_block_out ?_
   refine x_then_normal ?_
   refine c_sr ?_
   refine t_mv rfl rfl ?_
   refine t_as rfl rfl ?_
   refine t_ne ?_
   refine c_ret ?_
   obtain rfl := some1 hm
   refine x_front3 [_, _, _] hs162 hs2 hs7 R rfl ?_
   refine x_front3 [_, _, _] hs7 hs162 hs2 R rfl ?_
   refine x_front3 [_, _, _] hs2 hs7 hs162 R rfl ?_
   exact retM (rs := [.tmp 6]) [.slice A163 (l166).length c164] hle160 (by decide) rfl ⟨rfl, trivial⟩ rfl (.cons_cons _ (.cons _ (.cons _ (.refl _)))) ⟨A163, c164, hs162, rfl, rfl, h165⟩

set_option maxRecDepth 20000 in
theorem cFareCarFree (b : Base) (R : Hp) (x12 : Int) (x13 : Int) (x14 : Int) (x15 : Int) (x16 : Int) (l17 : (List FareBooking)) (l19 : (List Bool)) (g11 : Nat) (A3 : Option Addr) (c4 : Nat) (hs2 : Hp) (A8 : Option Addr) (c9 : Nat) (hs7 : Hp) (h5 : OS 32 (OT.fr rFareBooking) b.w (.slice A3 l17.length c4) l17 hs2) (hnz18 : (A3 = none ↔ l17 = [])) (h10 : OS 4 (OT.fr RT.bool) b.w (.slice A8 l19.length c9) l19 hs7) (hnz20 : (A8 = none ↔ l19 = [])) (x37 : Int) (l38 : (List Int)) (hm : mFareCarFree x12 x13 x14 x15 x16 l17 l19 = some (x37, l38)) :
    CallsG Tryz.prog 8 [.pointer (some ⟨g11, 0, none⟩), .int .i64 (x12), .int .i64 (x13)] b ((g11, Cl 54 [.int .i64 (x14), .int .i64 (x15), .int .i64 (x16), .slice A3 (l17).length c4, .slice A8 (l19).length c9]) :: (hs2 ++ (hs7 ++ R))) (fun v b' hp' => ∃ (A34 : Option Addr), ∃ (c35 : Nat), ∃ (hs33 : Hp), .tuple #[.slice A34 (l38).length c35, .int .i64 (x37)] = v ∧ (g11, Cl 54 [.int .i64 (x14), .int .i64 (x15), .int .i64 (x16), .slice A3 (l17).length c4, .slice A8 (l19).length c9]) :: (hs33 ++ (hs2 ++ (hs7 ++ R))) = hp' ∧ OS 3 (OT.fr (RT.int .i64)) b'.w (.slice A34 l38.length c35) l38 hs33) := by
  refine fn_enterG 20 Tryz.func8 rfl Tryz.ntmps8 rfl ?_
  unfold mFareCarFree at hm
  refine c_sr ?_
  refine t_as rfl rfl ?_
  refine t_as rfl rfl ?_
  refine t_ne ?_
  refine c_seq ?_
  refine c_sr ?_
  refine t_mv rfl rfl ?_
  refine t_mv rfl rfl ?_
  refine t_mv rfl rfl ?_
  refine t_st rfl (st_nil rfl) ?_
  refine t_st rfl (st_field rfl fld54_2) ?_
  refine t_st rfl (st_load 0 rfl one3 rfl rfl) ?_
  obtain ⟨x39, hcl40, hm⟩ := bindS hm
  refine t_do rfl (u_callW0 _ call18 rfl (fun w ho => cFareSpan _ [] x12 x13 x16 x39 hcl40) (fun _ _ _ h => h.2.symm)) ?_
  rintro _ _ ⟨⟨_, rfl, _⟩, rfl⟩
  refine t_st rfl (st_not rfl) ?_
  refine t_ne ?_
  refine c_cond _ rfl (fun hc41 => ?_) (fun hc41 => ?_)
  ·
   rw [if_neg (fun hh => Bool.noConfusion (hh.symm.trans (notT hc41)))] at hm
   refine c_sr ?_
   refine t_as rfl rfl ?_
   refine t_as rfl rfl ?_
   refine t_ne ?_
   refine c_ret ?_
   refine x_then_ret ?_
   obtain ⟨rfl, rfl⟩ := some2 hm
   refine x_front2 [_] hs2 hs7 R rfl ?_
   refine x_front2 [_] hs7 hs2 R rfl ?_
   exact retM (rs := [.tmp 6, .tmp 7]) [.slice none 0 0, .int .i64 (2)] (Base.Le.refl _) (by decide) rfl ⟨rfl, ⟨rfl, trivial⟩⟩ rfl (.refl _) ⟨none, 0, [], rfl, rfl, OS.nil⟩
  ·
   rw [if_pos (notF hc41)] at hm
   refine c_skip ?_
   refine x_then_normal ?_
   refine c_sr ?_
   refine t_mv rfl rfl ?_
   refine t_mv rfl rfl ?_
   refine t_mv rfl rfl ?_
   obtain ⟨l42, hcl43, hm⟩ := bindS hm
   refine t_front2 [_] hs2 hs7 R rfl ?_
   refine t_front2 [_] hs7 hs2 R rfl ?_
   refine t_out2 [_] [] hs2 hs7 R rfl ?_
   refine t_callG _ rfl call19 rfl (cFareCarFree_2 _ _ x12 x13 x14 x15 x16 l17 l19 g11 A3 c4 hs2 A8 c9 hs7 h5 hnz18 h10 hnz20 l42 hcl43) ?_
   rintro _ b44 _ hle45 ⟨A46, c47, hs48, rfl, rfl, h49⟩
   refine t_in3 [_] [] hs48 hs2 hs7 R rfl ?_
   refine t_as rfl rfl ?_
   refine t_as rfl rfl ?_
   refine t_ne ?_
   refine c_ret ?_
   obtain ⟨rfl, rfl⟩ := some2 hm
   refine x_front3 [_] hs48 hs2 hs7 R rfl ?_
   refine x_front3 [_] hs7 hs48 hs2 R rfl ?_
   refine x_front3 [_] hs2 hs7 hs48 R rfl ?_
   exact retM (rs := [.tmp 6, .tmp 7]) [.slice A46 (l42).length c47, .int .i64 (0)] hle45 (by decide) rfl ⟨rfl, ⟨rfl, trivial⟩⟩ rfl (.refl _) ⟨A46, c47, hs48, rfl, rfl, h49⟩

set_option maxRecDepth 20000 in
theorem clSlicesClone (A : Option Addr) (n c : Nat) (xs : List Value) (w : World) (hR : Rd w A xs) (hl : xs.length = n * 1) (hn : n * 8 ≤ 140737488355328 ∧ n ≤ 9223372036854775807) :
    CallsH Tryz.prog 21 [.slice A n c] w [] (fun v hp' => Seg0 3 1 v n xs hp') := by
  refine fn_enter 8 Tryz.func21 rfl Tryz.ntmps21 rfl ?_
  refine c_sr ?_
  refine t_as rfl rfl ?_
  refine t_ne ?_
  refine c_seq ?_
  refine c_sr ?_
  refine t_mv rfl rfl ?_
  refine t_bool rfl (st_eqnil rfl rfl sl22) (fun hc1 => ?_) (fun hc1 => ?_)
  ·
    refine t_ne ?_
    refine c_cond_t rfl ?_
    refine c_sr ?_
    refine t_as rfl rfl ?_
    refine t_ne ?_
    refine c_ret ?_
    refine x_then_ret ?_
    subst hc1
    obtain rfl := hR.none_nil
    obtain rfl : n = 0 := by simp at hl; omega
    refine x_drop (hp' := []) (by repeat (first | exact List.Sublist.refl _ | exact List.nil_sublist _ | exact List.sublist_append_left _ _ | exact List.sublist_append_right _ _ | exact (List.sublist_append_right _ _).trans (List.sublist_append_right _ _) | apply List.Sublist.cons_cons | apply List.Sublist.cons)) ?_
    exact ret1 (Base.Le.refl _) rfl rfl (Seg0.nil)
  ·
    refine t_ne ?_
    refine c_cond_f rfl ?_
    refine c_skip ?_
    refine x_then_normal ?_
    refine c_sr ?_
    refine t_do rfl (u_bslice (el := 3) [] [] rfl (fun _ => by kernel_rfl)) ?_
    rintro _ _ ⟨g0, rfl, rfl⟩
    refine t_mv rfl rfl ?_
    refine t_do rfl (u_app0 xs sl22 inf3 rfl (by decide) rfl rfl hl (fun w ho => hR.old ho) hn.2 hn.1) ?_
    rintro _ _ ⟨hs, rfl, hseg⟩
    refine t_as rfl rfl ?_
    refine t_ne ?_
    refine c_ret ?_
    refine x_drop (hp' := hs) (by repeat (first | exact List.Sublist.refl _ | exact List.nil_sublist _ | exact List.sublist_append_left _ _ | exact List.sublist_append_right _ _ | exact (List.sublist_append_right _ _).trans (List.sublist_append_right _ _) | apply List.Sublist.cons_cons | apply List.Sublist.cons)) ?_
    exact ret1 (Base.Le.refl _) rfl rfl hseg

set_option maxRecDepth 20000 in
theorem cSlicesClone (b : Base) (R : Hp) (l4 : (List Int)) (A1 : Option Addr) (c2 : Nat) (h3 : FZ (RT.int .i64) b.w A1 c2 l4) (l10 : (List Int)) (hm : mSlicesClone l4 = some l10) :
    CallsG Tryz.prog 21 [.slice A1 (l4).length c2] b (R) (fun v b' hp' => ∃ (A7 : Option Addr), ∃ (c8 : Nat), ∃ (hs6 : Hp), .slice A7 (l10).length c8 = v ∧ (hs6 ++ R) = hp' ∧ OS 3 (OT.fr (RT.int .i64)) b'.w (.slice A7 l10.length c8) l10 hs6) := by
  unfold mSlicesClone at hm
  obtain ⟨_, hroom, hm⟩ := bindS hm
  have hroom := room_some hroom
  obtain rfl := some1 hm
  exact clone_of (r := (RT.int .i64)) (sz := 1) (by_ := 8) rfl (by decide) clSlicesClone h3 hroom

set_option maxRecDepth 20000 in
theorem cFareCarGap (b : Base) (R : Hp) (x12 : Int) (x13 : Int) (x14 : Int) (x15 : Int) (x16 : Int) (x17 : Int) (l18 : (List FareBooking)) (l20 : (List Bool)) (g11 : Nat) (A3 : Option Addr) (c4 : Nat) (hs2 : Hp) (A8 : Option Addr) (c9 : Nat) (hs7 : Hp) (h5 : OS 32 (OT.fr rFareBooking) b.w (.slice A3 l18.length c4) l18 hs2) (hnz19 : (A3 = none ↔ l18 = [])) (h10 : OS 4 (OT.fr RT.bool) b.w (.slice A8 l20.length c9) l20 hs7) (hnz21 : (A8 = none ↔ l20 = [])) (x125 : Int) (hm : mFareCarGap x12 x13 x14 x15 x16 x17 l18 l20 = some x125) :
    CallsG Tryz.prog 37 [.pointer (some ⟨g11, 0, none⟩), .int .i64 (x12), .int .i64 (x13), .int .i64 (x14)] b ((g11, Cl 54 [.int .i64 (x15), .int .i64 (x16), .int .i64 (x17), .slice A3 (l18).length c4, .slice A8 (l20).length c9]) :: (hs2 ++ (hs7 ++ R))) (fun v b' hp' => .int .i64 (x125) = v ∧ (g11, Cl 54 [.int .i64 (x15), .int .i64 (x16), .int .i64 (x17), .slice A3 (l18).length c4, .slice A8 (l20).length c9]) :: (hs2 ++ (hs7 ++ R)) = hp') := by
  refine fn_enterG 46 Tryz.func37 rfl Tryz.ntmps37 rfl ?_
  unfold mFareCarGap at hm
  refine c_sr ?_
  refine t_as rfl rfl ?_
  refine t_ne ?_
  refine c_seq ?_
  obtain ⟨_, h127, hm⟩ := bindS hm
  refine D_drawI mixed (.refl _) ?_
  refine E_s0 0 rfl (st_move rfl) ?_
  refine E_s0 1 rfl (st_nil rfl) ?_
  refine E_s0 2 rfl (st_field rfl fld54_2) ?_
  refine E_st 3 rfl (st_load 0 rfl one3 rfl rfl) ?_
  have h127 := (chk_some h127).2
  refine E_s0 4 rfl (st_sub rfl rfl h127) ?_
  refine E_s0 5 rfl (st_assign rfl) ?_
  refine E_s0 6 rfl (st_assign rfl) ?_
  refine E_out ?_
  refine D_done (by kernel_rfl) ?_
  refine x_then_normal ?_
  refine c_seq ?_
  refine c_sr ?_
  refine t_mv rfl rfl ?_
  refine t_mv rfl rfl ?_
  obtain ⟨l128, hcl129, hm⟩ := bindS hm
  refine t_front2 [_] hs2 hs7 R rfl ?_
  refine t_front2 [_] hs7 hs2 R rfl ?_
  refine t_out2 [_] [] hs2 hs7 R rfl ?_
  refine t_callG _ rfl call34 rfl (cFareCarOf _ _ x12 x15 x16 x17 l18 l20 g11 A3 c4 hs2 A8 c9 hs7 h5 hnz19 h10 hnz21 l128 hcl129) ?_
  rintro _ b130 _ hle131 ⟨A132, c133, hs134, rfl, rfl, h135⟩
  refine t_in3 [_] [] hs134 hs2 hs7 R rfl ?_
  refine t_st rfl (st_len rfl sl37) ?_
  refine t_mv rfl rfl ?_
  refine t_ne ?_
  refine c_block ?_
  have hb137 : l128.length ≤ 9223372036854775807 := (OS.len h135)
  refine c_front3 [_] hs134 hs2 hs7 R rfl ?_
  refine c_front3 [_] hs7 hs134 hs2 R rfl ?_
  refine c_front3 [_] hs2 hs7 hs134 R rfl ?_
  obtain ⟨⟨x196, x197⟩, hl199, hk200⟩ := bindS hm
  refine c_forS (fun k198 => unc2 fun x196 x197 => fun b194 e' hp' => [(2, .int .i64 (x13)), (3, .int .i64 (x14)), (9, .int .i64 (x196)), (10, .int .i64 (x197)), (20, .slice A132 (l128).length c133), (21, .int .i64 ((l128.length : Int))), (22, .int .i64 ((k198 : Int)))] = e' ∧ (g11, Cl 54 [.int .i64 (x15), .int .i64 (x16), .int .i64 (x17), .slice A3 (l18).length c4, .slice A8 (l20).length c9]) :: (hs134 ++ (hs2 ++ (hs7 ++ R))) = hp' ∧ b130.Le b194) hl199 (e' := [(2, .int .i64 (x13)), (3, .int .i64 (x14)), (9, .int .i64 (0)), (10, .int .i64 (x17 - 1)), (20, .slice A132 (l128).length c133), (21, .int .i64 ((l128.length : Int))), (22, .int .i64 0)]) ⟨rfl, rfl, rfl, rfl, rfl, rfl, rfl, trivial⟩ (.refl _) ⟨rfl, rfl, (Base.Le.refl _)⟩ ?_ ?_
  ·
   rintro k198 ⟨x196, x197⟩ b194 _ _ oL136 hknL136 ⟨rfl, rfl, hle195⟩ hstepL136
   unfold mFareCarGap_L136 at hstepL136
   have hm := (unc2E hstepL136)
   refine c_sr ?_
   refine t_st rfl (st_lss_t rfl rfl (by omega)) ?_
   refine t_ne ?_
   refine c_seq ?_
   refine c_cond_t rfl ?_
   refine c_skip ?_
   refine x_then_normal ?_
   refine c_seq ?_
   refine c_block ?_
   refine c_sr ?_
   obtain ⟨x201, h202, hm⟩ := bindS hm
   obtain ⟨j203, hj204, hx205⟩ := idx_some h202
   obtain ⟨cs206, hs211, P212, P213, hq214, hr207, hcs208, hA209, hlt210, hb215, hho216⟩ := OS.get (sz := 4) rfl (by decide) (h135.le hle195) hx205
   obtain ⟨⟨_, _, rfl, rfl, ⟨_, _, rfl, rfl, ⟨_, _, rfl, rfl, ⟨A217, c218, rfl, h219⟩⟩⟩⟩, rfl⟩ := hr207
   refine t_st rfl (st_index_old j203 rfl rfl hj204 hlt210 hA209 sl37) ?_
   refine t_st rfl (st_loadN_rd (vs := [.int .i64 (x201.No), .int .i64 (x201.From), .int .i64 (x201.To), .slice A217 (x201.Seats).length c218]) 4 rfl agg32 hA209 rfl (fun w ho j u hu => hcs208 w _ ho (.cons _ (List.sublist_append_left _ _)) j u hu)) ?_
   refine t_do rfl (u_alloc [.int .i64 0, .int .i64 0, .int .i64 0, .slice none 0 0] zero32 rfl) ?_
   rintro _ _ ⟨g220, rfl, rfl⟩
   refine t_do rfl (u_storeN (vs := [_, _, _, _]) 0 4 rfl rfl rfl siz32 rfl (mem_c rfl (mem_c rfl (mem_c rfl (mem_c rfl mem_n)))) rfl (by simp)) ?_
   rintro _ _ rfl
   refine t_ne ?_
   obtain ⟨x224, hj225, hk225⟩ := bindS hm
   refine c_join (fun b222 e' hp' => [(2, .int .i64 (x13)), (3, .int .i64 (x14)), (9, .int .i64 (x224)), (10, .int .i64 (x197)), (12, .pointer (some ⟨g220, 0, none⟩)), (20, .slice A132 (l128).length c133), (21, .int .i64 ((l128.length : Int))), (22, .int .i64 ((k198 : Int)))] = e' ∧ (g220, Cl 32 [.int .i64 (x201.No), .int .i64 (x201.From), .int .i64 (x201.To), .slice A217 (x201.Seats).length c218]) :: (g11, Cl 54 [.int .i64 (x15), .int .i64 (x16), .int .i64 (x17), .slice A3 (l18).length c4, .slice A8 (l20).length c9]) :: (hs134 ++ (hs2 ++ (hs7 ++ R))) = hp' ∧ b194.Le b222) ?_ ?_
   ·
    have hm := hj225
    refine c_sr ?_
    refine t_st rfl (st_field rfl fld32_2) ?_
    refine t_st rfl (st_load 0 rfl one3 rfl rfl) ?_
    refine t_mv rfl rfl ?_
    refine t_st rfl (st_leq rfl rfl) ?_
    refine t_ne ?_
    refine c_cond _ rfl (fun hc226 => ?_) (fun hc226 => ?_)
    ·
     rw [if_pos (of_decide_eq_true hc226)] at hm
     refine c_region ?_
     refine t_mv rfl rfl ?_
     refine t_st rfl (st_field rfl fld32_2) ?_
     refine t_st rfl (st_load 0 rfl one3 rfl rfl) ?_
     refine t_st rfl (st_max rfl rfl) ?_
     refine t_as rfl rfl ?_
     refine t_nil ?_
     obtain rfl := some1 hm
     refine x_pullb 1 rfl ?_
     refine x_pullb 1 rfl ?_
     refine x_front3 [_, _] hs134 hs2 hs7 R rfl ?_
     refine x_front3 [_, _] hs7 hs134 hs2 R rfl ?_
     refine x_front3 [_, _] hs2 hs7 hs134 R rfl ?_
     exact x_join (e' := [(2, .int .i64 (x13)), (3, .int .i64 (x14)), (9, .int .i64 (max x196 x201.To)), (10, .int .i64 (x197)), (12, .pointer (some ⟨g220, 0, none⟩)), (20, .slice A132 (l128).length c133), (21, .int .i64 ((l128.length : Int))), (22, .int .i64 ((k198 : Int)))]) ⟨rfl, rfl, rfl, rfl, rfl, rfl, rfl, rfl, trivial⟩ (.refl _) ⟨rfl, rfl, (Base.Le.refl _)⟩
    ·
     rw [if_neg (of_decide_eq_false hc226)] at hm
     refine c_skip ?_
     obtain rfl := some1 hm
     refine x_pullb 1 rfl ?_
     refine x_pullb 1 rfl ?_
     refine x_front3 [_, _] hs134 hs2 hs7 R rfl ?_
     refine x_front3 [_, _] hs7 hs134 hs2 R rfl ?_
     refine x_front3 [_, _] hs2 hs7 hs134 R rfl ?_
     exact x_join (e' := [(2, .int .i64 (x13)), (3, .int .i64 (x14)), (9, .int .i64 (x196)), (10, .int .i64 (x197)), (12, .pointer (some ⟨g220, 0, none⟩)), (20, .slice A132 (l128).length c133), (21, .int .i64 ((l128.length : Int))), (22, .int .i64 ((k198 : Int)))]) ⟨rfl, rfl, rfl, rfl, rfl, rfl, rfl, rfl, trivial⟩ (.refl _) ⟨rfl, rfl, (Base.Le.refl _)⟩
   ·
    rintro b222 _ _ ⟨rfl, rfl, hle223⟩
    have hm := hk225
    refine c_sr ?_
    refine t_st rfl (st_field rfl fld32_1) ?_
    refine t_st rfl (st_load 0 rfl one3 rfl rfl) ?_
    refine t_mv rfl rfl ?_
    refine t_st rfl (st_geq rfl rfl) ?_
    refine t_ne ?_
    refine c_cond _ rfl (fun hc227 => ?_) (fun hc227 => ?_)
    ·
     rw [if_pos (of_decide_eq_true hc227)] at hm
     refine c_region ?_
     refine t_mv rfl rfl ?_
     refine t_st rfl (st_field rfl fld32_1) ?_
     refine t_st rfl (st_load 0 rfl one3 rfl rfl) ?_
     refine t_st rfl (st_min rfl rfl) ?_
     refine t_as rfl rfl ?_
     refine t_nil ?_
     refine x_block_normal ?_
     refine x_then_normal ?_
     refine c_region ?_
     refine t_st rfl (st_add rfl rfl (by omega)) ?_
     refine t_mv rfl rfl ?_
     refine t_nil ?_
     refine x_pullb 1 rfl ?_
     refine x_front3 [_, _] hs134 hs2 hs7 R rfl ?_
     refine x_front3 [_, _] hs7 hs134 hs2 R rfl ?_
     refine x_front3 [_, _] hs2 hs7 hs134 R rfl ?_
     obtain rfl := some1 hm
     exact x_againS (e' := [(2, .int .i64 (x13)), (3, .int .i64 (x14)), (9, .int .i64 (x224)), (10, .int .i64 (min x197 x201.From)), (20, .slice A132 (l128).length c133), (21, .int .i64 ((l128.length : Int))), (22, .int .i64 ((k198 : Int) + 1))]) ⟨rfl, rfl, rfl, rfl, rfl, rfl, rfl, trivial⟩ (.cons_cons _ (.cons _ (.refl _))) ⟨rfl, rfl, ((hle195.trans hle223))⟩
    ·
     rw [if_neg (of_decide_eq_false hc227)] at hm
     refine c_skip ?_
     refine x_block_normal ?_
     refine x_then_normal ?_
     refine c_region ?_
     refine t_st rfl (st_add rfl rfl (by omega)) ?_
     refine t_mv rfl rfl ?_
     refine t_nil ?_
     refine x_pullb 1 rfl ?_
     refine x_front3 [_, _] hs134 hs2 hs7 R rfl ?_
     refine x_front3 [_, _] hs7 hs134 hs2 R rfl ?_
     refine x_front3 [_, _] hs2 hs7 hs134 R rfl ?_
     obtain rfl := some1 hm
     exact x_againS (e' := [(2, .int .i64 (x13)), (3, .int .i64 (x14)), (9, .int .i64 (x224)), (10, .int .i64 (x197)), (20, .slice A132 (l128).length c133), (21, .int .i64 ((l128.length : Int))), (22, .int .i64 ((k198 : Int) + 1))]) ⟨rfl, rfl, rfl, rfl, rfl, rfl, rfl, trivial⟩ (.cons_cons _ (.cons _ (.refl _))) ⟨rfl, rfl, ((hle195.trans hle223))⟩
  ·
   rintro b194 _ _ ⟨rfl, rfl, hle195⟩
   have hm := (unc2E hk200)
   refine c_sr ?_
   refine t_st rfl (st_lss_f rfl rfl (by omega)) ?_
   refine t_ne ?_
   refine c_seq ?_
   refine c_cond_f rfl ?_
   refine c_exit ?_
   refine x_then_exit ?_
   refine x_then_exit ?_
   refine x_block_out ?_
   refine x_then_normal ?_
   refine c_sr ?_
   refine t_mv rfl rfl ?_
   refine t_mv rfl rfl ?_
   obtain ⟨_, h228, hm⟩ := bindS hm
   have h228 := (chk_some h228).2
   refine t_st rfl (st_sub rfl rfl h228) ?_
   refine t_as rfl rfl ?_
   refine t_ne ?_
   refine c_ret ?_
   obtain rfl := some1 hm
   refine x_front3 [_] hs134 hs2 hs7 R rfl ?_
   refine x_front3 [_] hs7 hs134 hs2 R rfl ?_
   exact retM (rs := [.tmp 8]) [.int .i64 (x197 - x196)] (hle131.trans hle195) (by decide) rfl ⟨rfl, trivial⟩ rfl (.cons_cons _ (sub_app hs2 (sub_app hs7 (sub_skip hs134 (.refl _))))) ⟨rfl, rfl⟩

set_option maxRecDepth 20000 in
theorem cCmpIsNaN (b : Base) (R : Hp) (x1 : Int) (x2 : Bool) (hm : mCmpIsNaN x1 = some x2) :
    CallsG Tryz.prog 40 [.int .i64 (x1)] b (R) (fun v b' hp' => .bool (x2) = v ∧ R = hp') := by
  refine fn_enterG 6 Tryz.func40 rfl Tryz.ntmps40 rfl ?_
  unfold mCmpIsNaN at hm
  refine c_sr ?_
  refine t_as rfl rfl ?_
  refine t_ne ?_
  refine c_sr ?_
  refine t_mv rfl rfl ?_
  refine t_mv rfl rfl ?_
  refine t_st rfl (st_neq rfl rfl) ?_
  refine t_as rfl rfl ?_
  refine t_ne ?_
  refine c_ret ?_
  obtain rfl := some1 hm
  exact retM (rs := [.tmp 2]) [.bool (decide (x1 ≠ x1))] (Base.Le.refl _) (by decide) rfl ⟨rfl, trivial⟩ rfl (.refl _) ⟨rfl, rfl⟩

set_option maxRecDepth 20000 in
theorem cCmpCompare (b : Base) (R : Hp) (x1 : Int) (x2 : Int) (x12 : Int) (hm : mCmpCompare x1 x2 = some x12) :
    CallsG Tryz.prog 26 [.int .i64 (x1), .int .i64 (x2)] b (R) (fun v b' hp' => .int .i64 (x12) = v ∧ R = hp') := by
  refine fn_enterG 20 Tryz.func26 rfl Tryz.ntmps26 rfl ?_
  unfold mCmpCompare at hm
  refine c_sr ?_
  refine t_as rfl rfl ?_
  refine t_ne ?_
  refine c_sr ?_
  refine t_mv rfl rfl ?_
  obtain ⟨x13, hcl14, hm⟩ := bindS hm
  refine t_do rfl (u_callW0 _ call40 rfl (fun w ho => cCmpIsNaN _ [] x1 x13 hcl14) (fun _ _ _ h => h.2.symm)) ?_
  rintro _ _ ⟨⟨_, rfl, _⟩, rfl⟩
  refine t_as rfl rfl ?_
  refine t_ne ?_
  refine c_sr ?_
  refine t_mv rfl rfl ?_
  obtain ⟨x15, hcl16, hm⟩ := bindS hm
  refine t_do rfl (u_callW0 _ call40 rfl (fun w ho => cCmpIsNaN _ [] x2 x15 hcl16) (fun _ _ _ h => h.2.symm)) ?_
  rintro _ _ ⟨⟨_, rfl, _⟩, rfl⟩
  refine t_as rfl rfl ?_
  refine t_ne ?_
  refine c_seq ?_
  refine c_sr ?_
  refine t_mv rfl rfl ?_
  refine t_ne ?_
  refine c_cond _ rfl (fun hc17 => ?_) (fun hc17 => ?_)
  ·
   rw [if_pos hc17] at hm
   refine c_seq ?_
   refine c_sr ?_
   refine t_mv rfl rfl ?_
   refine t_ne ?_
   refine c_cond _ rfl (fun hc18 => ?_) (fun hc18 => ?_)
   ·
    rw [if_pos hc18] at hm
    refine c_sr ?_
    refine t_as rfl rfl ?_
    refine t_ne ?_
    refine c_ret ?_
    refine x_then_ret ?_
    refine x_then_ret ?_
    obtain rfl := some1 hm
    exact retM (rs := [.tmp 4]) [.int .i64 (0)] (Base.Le.refl _) (by decide) rfl ⟨rfl, trivial⟩ rfl (.refl _) ⟨rfl, rfl⟩
   ·
    rw [if_neg (fun hh => Bool.noConfusion (hh.symm.trans hc18))] at hm
    refine c_skip ?_
    refine x_then_normal ?_
    refine c_sr ?_
    refine t_as rfl rfl ?_
    refine t_ne ?_
    refine c_ret ?_
    refine x_then_ret ?_
    obtain rfl := some1 hm
    exact retM (rs := [.tmp 4]) [.int .i64 ((-1))] (Base.Le.refl _) (by decide) rfl ⟨rfl, trivial⟩ rfl (.refl _) ⟨rfl, rfl⟩
  ·
   rw [if_neg (fun hh => Bool.noConfusion (hh.symm.trans hc17))] at hm
   refine c_skip ?_
   refine x_then_normal ?_
   refine c_seq ?_
   refine c_sr ?_
   refine t_mv rfl rfl ?_
   refine t_ne ?_
   refine c_cond _ rfl (fun hc19 => ?_) (fun hc19 => ?_)
   ·
    rw [if_pos hc19] at hm
    refine c_sr ?_
    refine t_as rfl rfl ?_
    refine t_ne ?_
    refine c_ret ?_
    refine x_then_ret ?_
    obtain rfl := some1 hm
    exact retM (rs := [.tmp 4]) [.int .i64 (1)] (Base.Le.refl _) (by decide) rfl ⟨rfl, trivial⟩ rfl (.refl _) ⟨rfl, rfl⟩
   ·
    rw [if_neg (fun hh => Bool.noConfusion (hh.symm.trans hc19))] at hm
    refine c_skip ?_
    refine x_then_normal ?_
    refine c_seq ?_
    refine c_sr ?_
    refine t_mv rfl rfl ?_
    refine t_mv rfl rfl ?_
    refine t_st rfl (st_lss rfl rfl) ?_
    refine t_ne ?_
    refine c_cond _ rfl (fun hc20 => ?_) (fun hc20 => ?_)
    ·
     rw [if_pos (of_decide_eq_true hc20)] at hm
     refine c_sr ?_
     refine t_as rfl rfl ?_
     refine t_ne ?_
     refine c_ret ?_
     refine x_then_ret ?_
     obtain rfl := some1 hm
     exact retM (rs := [.tmp 4]) [.int .i64 ((-1))] (Base.Le.refl _) (by decide) rfl ⟨rfl, trivial⟩ rfl (.refl _) ⟨rfl, rfl⟩
    ·
     rw [if_neg (of_decide_eq_false hc20)] at hm
     refine c_skip ?_
     refine x_then_normal ?_
     refine c_seq ?_
     refine c_sr ?_
     refine t_mv rfl rfl ?_
     refine t_mv rfl rfl ?_
     refine t_st rfl (st_gtr rfl rfl) ?_
     refine t_ne ?_
     refine c_cond _ rfl (fun hc21 => ?_) (fun hc21 => ?_)
     ·
      rw [if_pos (of_decide_eq_true hc21)] at hm
      refine c_sr ?_
      refine t_as rfl rfl ?_
      refine t_ne ?_
      refine c_ret ?_
      refine x_then_ret ?_
      obtain rfl := some1 hm
      exact retM (rs := [.tmp 4]) [.int .i64 (1)] (Base.Le.refl _) (by decide) rfl ⟨rfl, trivial⟩ rfl (.refl _) ⟨rfl, rfl⟩
     ·
      rw [if_neg (of_decide_eq_false hc21)] at hm
      refine c_skip ?_
      refine x_then_normal ?_
      refine c_sr ?_
      refine t_as rfl rfl ?_
      refine t_ne ?_
      refine c_ret ?_
      obtain rfl := some1 hm
      exact retM (rs := [.tmp 4]) [.int .i64 (0)] (Base.Le.refl _) (by decide) rfl ⟨rfl, trivial⟩ rfl (.refl _) ⟨rfl, rfl⟩

set_option maxRecDepth 20000 in
theorem cFareCarChoose_1 (b : Base) (R : Hp) (x15 : Int) (x16 : Int) (x17 : Int) (x18 : Int) (x19 : Int) (x20 : Int) (x21 : Int) (l22 : (List FareBooking)) (l24 : (List Bool)) (g11 : Nat) (g12 : Nat) (g13 : Nat) (g14 : Nat) (A3 : Option Addr) (c4 : Nat) (hs2 : Hp) (A8 : Option Addr) (c9 : Nat) (hs7 : Hp) (h5 : OS 32 (OT.fr rFareBooking) b.w (.slice A3 l22.length c4) l22 hs2) (hnz23 : (A3 = none ↔ l22 = [])) (h10 : OS 4 (OT.fr RT.bool) b.w (.slice A8 l24.length c9) l24 hs7) (hnz25 : (A8 = none ↔ l24 = [])) (x70 : Int) (hm : mFareCarChoose_1 x15 x16 x17 x18 x19 x20 x21 l22 l24 = some x70) :
    CallsG Tryz.prog 36 [.int .i64 (x15), .int .i64 (x16), .pointer (some ⟨g11, 0, none⟩), .pointer (some ⟨g12, 0, none⟩), .pointer (some ⟨g13, 0, none⟩)] b ((g11, Cl 24 [.pointer (some ⟨g14, 0, none⟩)]) :: (g12, Cl 3 [.int .i64 (x17)]) :: (g13, Cl 3 [.int .i64 (x18)]) :: (g14, Cl 54 [.int .i64 (x19), .int .i64 (x20), .int .i64 (x21), .slice A3 (l22).length c4, .slice A8 (l24).length c9]) :: (hs2 ++ (hs7 ++ R))) (fun v b' hp' => .int .i64 (x70) = v ∧ (g11, Cl 24 [.pointer (some ⟨g14, 0, none⟩)]) :: (g12, Cl 3 [.int .i64 (x17)]) :: (g13, Cl 3 [.int .i64 (x18)]) :: (g14, Cl 54 [.int .i64 (x19), .int .i64 (x20), .int .i64 (x21), .slice A3 (l22).length c4, .slice A8 (l24).length c9]) :: (hs2 ++ (hs7 ++ R)) = hp') := by
  refine fn_enterG 19 Tryz.func36 rfl Tryz.ntmps36 rfl ?_
  unfold mFareCarChoose_1 at hm
  refine c_sr ?_
  refine t_as rfl rfl ?_
  refine t_ne ?_
  obtain ⟨x93, hj94, hk94⟩ := bindS hm
  refine c_join (fun b91 e' hp' => [(7, .int .i64 (x93))] = e' ∧ (g11, Cl 24 [.pointer (some ⟨g14, 0, none⟩)]) :: (g12, Cl 3 [.int .i64 (x17)]) :: (g13, Cl 3 [.int .i64 (x18)]) :: (g14, Cl 54 [.int .i64 (x19), .int .i64 (x20), .int .i64 (x21), .slice A3 (l22).length c4, .slice A8 (l24).length c9]) :: (hs2 ++ (hs7 ++ R)) = hp' ∧ b.Le b91) ?_ ?_
  ·
   have hm := hj94
   obtain ⟨x105, hcl106, hm⟩ := bindS hm
   obtain ⟨x109, hcl110, hm⟩ := bindS hm
   obtain ⟨x113, hcl114, hm⟩ := bindS hm
   refine D_drawI mixed (.cons_cons _ (.cons_cons _ (.cons_cons _ (.cons _ (sub_skip hs2 (sub_skip hs7 (.refl _))))))) ?_
   refine E_st 0 rfl (st_load 0 rfl one24 rfl rfl) ?_
   refine E_s0 1 rfl (st_move rfl) ?_
   refine E_st 2 rfl (st_load 1 rfl one3 rfl rfl) ?_
   refine E_st 3 rfl (st_load 2 rfl one3 rfl rfl) ?_
   refine E_st 5 rfl (st_load 0 rfl one24 rfl rfl) ?_
   refine E_s0 6 rfl (st_move rfl) ?_
   refine E_st 7 rfl (st_load 1 rfl one3 rfl rfl) ?_
   refine E_st 8 rfl (st_load 2 rfl one3 rfl rfl) ?_
   refine E_out ?_
   refine d_pullb 3 rfl ?_
   refine d_front2 [_, _, _, _] hs2 hs7 R rfl ?_
   refine d_front2 [_, _, _, _] hs7 hs2 R rfl ?_
   refine d_out2 [_] [_, _, _] hs2 hs7 R rfl ?_
   refine D_all [4] (by kernel_rfl) rfl ?_
   refine R_callGl (Base.Le.refl _) rfl rfl _ call37 rfl (cFareCarGap _ _ x15 x17 x18 x19 x20 x21 l22 l24 g14 A3 c4 hs2 A8 c9 hs7 h5 hnz23 h10 hnz25 x105 hcl106) ?_ ?_
   ·
    rintro _ b107 _ hle108 ⟨rfl, rfl⟩
    refine ⟨.inr (.cons _ (sub_skip hs2 (sub_skip hs7 (.refl _)))), ?_⟩
    refine d_in2 [_] [_, _, _] hs2 hs7 R rfl ?_
    refine d_front2 [_, _, _, _] hs2 hs7 R rfl ?_
    refine d_front2 [_, _, _, _] hs7 hs2 R rfl ?_
    refine d_out2 [_] [_, _, _] hs2 hs7 R rfl ?_
    refine D_all [9] (by kernel_rfl) rfl ?_
    refine R_callGl hle108 rfl rfl _ call37 rfl (cFareCarGap _ _ x16 x17 x18 x19 x20 x21 l22 l24 g14 A3 c4 hs2 A8 c9 hs7 (h5.le hle108) hnz23 (h10.le hle108) hnz25 x109 hcl110) ?_ ?_
    ·
     rintro _ b111 _ hle112 ⟨rfl, rfl⟩
     refine ⟨.inr (.cons _ (sub_skip hs2 (sub_skip hs7 (.refl _)))), ?_⟩
     refine d_in2 [_] [_, _, _] hs2 hs7 R rfl ?_
     refine D_all [10] (by kernel_rfl) rfl ?_
     refine R_do (hle108.trans hle112) rfl rfl (u_callW0 _ call26 rfl (fun w ho => cCmpCompare _ [] x105 x109 x113 hcl114) (fun _ _ _ h => h.2.symm)) ?_ ?_
     ·
      rintro _ _ ⟨⟨_, rfl, _⟩, rfl⟩
      refine ⟨.inr (.cons _ (.cons_cons _ (.cons_cons _ (.cons_cons _ (sub_skip hs2 (sub_skip hs7 (.refl _))))))), ?_⟩
      refine E_in (hle108.trans hle112) (.cons _ (.cons_cons _ (.cons_cons _ (.cons_cons _ (sub_skip hs2 (sub_skip hs7 (.refl _))))))) ?_
      refine E_s0 11 rfl (st_assign rfl) ?_
      refine E_out ?_
      refine D_done (by kernel_rfl) ?_
      obtain rfl := some1 hm
      refine x_pullb 3 rfl ?_
      refine x_pullb 3 rfl ?_
      refine x_pullb 3 rfl ?_
      refine x_front2 [_, _, _, _] hs2 hs7 R rfl ?_
      refine x_front2 [_, _, _, _] hs7 hs2 R rfl ?_
      exact x_join (e' := [(7, .int .i64 (x113))]) ⟨rfl, trivial⟩ (.refl _) ⟨rfl, rfl, (hle108.trans hle112)⟩
     exact R_nil
    exact R_nil
   exact R_nil
  ·
   rintro b91 _ _ ⟨rfl, rfl, hle92⟩
   have hm := hk94
   refine c_ret ?_
   obtain rfl := some1 hm
   refine x_pullb 3 rfl ?_
   refine x_pullb 3 rfl ?_
   refine x_pullb 3 rfl ?_
   refine x_pullb 3 rfl ?_
   refine x_front2 [_, _, _, _] hs2 hs7 R rfl ?_
   refine x_front2 [_, _, _, _] hs7 hs2 R rfl ?_
   exact retM (rs := [.tmp 7]) [.int .i64 (x93)] hle92 (by decide) rfl ⟨rfl, trivial⟩ rfl (.refl _) ⟨rfl, rfl⟩

set_option maxRecDepth 20000 in
theorem cSlicesInsertionSortCmpFunc (b : Base) (R : Hp) (x20 : Int) (x21 : Int) (x22 : Int) (x23 : Int) (x24 : Int) (x25 : Int) (x26 : Int) (l27 : (List Int)) (l28 : (List FareBooking)) (l30 : (List Bool)) (g16 : Nat) (g17 : Nat) (g18 : Nat) (g19 : Nat) (A3 : Option Addr) (c4 : Nat) (hs2 : Hp) (A8 : Option Addr) (c9 : Nat) (hs7 : Hp) (A13 : Option Addr) (c14 : Nat) (hs12 : Hp) (h5 : OS 3 (OT.fr (RT.int .i64)) b.w (.slice A3 l27.length c4) l27 hs2) (h10 : OS 32 (OT.fr rFareBooking) b.w (.slice A8 l28.length c9) l28 hs7) (hnz29 : (A8 = none ↔ l28 = [])) (h15 : OS 4 (OT.fr RT.bool) b.w (.slice A13 l30.length c14) l30 hs12) (hnz31 : (A13 = none ↔ l30 = [])) (l5535 : (List Int)) (hm : mSlicesInsertionSortCmpFunc x20 x21 x22 x23 x24 x25 x26 l27 l28 l30 = some l5535) :
    CallsG Tryz.prog 58 [.slice A3 (l27).length c4, .int .i64 (x20), .int .i64 (x21), .func (.func 36) #[] #[.pointer (some ⟨g16, 0, none⟩), .pointer (some ⟨g17, 0, none⟩), .pointer (some ⟨g18, 0, none⟩)]] b ((g16, Cl 24 [.pointer (some ⟨g19, 0, none⟩)]) :: (g17, Cl 3 [.int .i64 (x22)]) :: (g18, Cl 3 [.int .i64 (x23)]) :: (g19, Cl 54 [.int .i64 (x24), .int .i64 (x25), .int .i64 (x26), .slice A8 (l28).length c9, .slice A13 (l30).length c14]) :: (hs2 ++ (hs7 ++ (hs12 ++ R)))) (fun v b' hp' => ∃ (hs5533 : Hp), .tuple #[] = v ∧ (g16, Cl 24 [.pointer (some ⟨g19, 0, none⟩)]) :: (g17, Cl 3 [.int .i64 (x22)]) :: (g18, Cl 3 [.int .i64 (x23)]) :: (g19, Cl 54 [.int .i64 (x24), .int .i64 (x25), .int .i64 (x26), .slice A8 (l28).length c9, .slice A13 (l30).length c14]) :: (hs5533 ++ (hs7 ++ (hs12 ++ R))) = hp' ∧ OS 3 (OT.fr (RT.int .i64)) b'.w (.slice A3 l5535.length c4) l5535 hs5533 ∧ l5535.length = l27.length) := by
  refine fn_enterG 53 Tryz.func58 rfl Tryz.ntmps58 rfl ?_
  unfold mSlicesInsertionSortCmpFunc at hm
  refine c_sr ?_
  refine t_mv rfl rfl ?_
  obtain ⟨_, h5537, hm⟩ := bindS hm
  have h5537 := (chk_some h5537).2
  refine t_st rfl (st_add rfl rfl h5537) ?_
  refine t_as rfl rfl ?_
  refine t_ne ?_
  refine c_block ?_
  refine c_pullb 3 rfl ?_
  refine c_pullb 3 rfl ?_
  refine c_pullb 3 rfl ?_
  refine c_pullb 3 rfl ?_
  refine c_front3 [_, _, _, _] hs2 hs7 hs12 R rfl ?_
  refine c_front3 [_, _, _, _] hs12 hs2 hs7 R rfl ?_
  refine c_front3 [_, _, _, _] hs7 hs12 hs2 R rfl ?_
  refine c_loopM (unc2 fun x9206 l9207 => fun b9201 e' hp' => ∃ (hs9204 : Hp), [(0, .slice A3 (l9207).length c4), (1, .int .i64 (x20)), (2, .int .i64 (x21)), (3, .func (.func 36) #[] #[.pointer (some ⟨g16, 0, none⟩), .pointer (some ⟨g17, 0, none⟩), .pointer (some ⟨g18, 0, none⟩)]), (8, .int .i64 (x9206))] = e' ∧ (g16, Cl 24 [.pointer (some ⟨g19, 0, none⟩)]) :: (g17, Cl 3 [.int .i64 (x22)]) :: (g18, Cl 3 [.int .i64 (x23)]) :: (g19, Cl 54 [.int .i64 (x24), .int .i64 (x25), .int .i64 (x26), .slice A8 (l28).length c9, .slice A13 (l30).length c14]) :: (hs9204 ++ (hs7 ++ (hs12 ++ R))) = hp' ∧ b.Le b9201 ∧ OS 3 (OT.fr (RT.int .i64)) b9201.w (.slice A3 l9207.length c4) l9207 hs9204 ∧ l9207.length = l27.length) hm (e' := [(0, .slice A3 (l27).length c4), (1, .int .i64 (x20)), (2, .int .i64 (x21)), (3, .func (.func 36) #[] #[.pointer (some ⟨g16, 0, none⟩), .pointer (some ⟨g17, 0, none⟩), .pointer (some ⟨g18, 0, none⟩)]), (8, .int .i64 (x20 + 1))]) ⟨rfl, rfl, rfl, rfl, rfl, trivial⟩ (.refl _) ⟨hs2, rfl, rfl, (Base.Le.refl _), h5, rfl⟩ ?_
  rintro ⟨x9206, l9207⟩ b9201 _ _ oL5538 ⟨hs9204, rfl, rfl, hle9202, h9205, hln9208⟩ hstepL5538 houtL5538
  unfold mSlicesInsertionSortCmpFunc_L5538 at hstepL5538
  have hm := (unc2E hstepL5538)
  refine c_seq ?_
  refine c_sr ?_
  refine t_mv rfl rfl ?_
  refine t_mv rfl rfl ?_
  refine t_st rfl (st_lss rfl rfl) ?_
  refine t_ne ?_
  refine c_cond _ rfl (fun hc9209 => ?_) (fun hc9209 => ?_)
  ·
   rw [if_pos (of_decide_eq_true hc9209)] at hm
   refine c_skip ?_
   refine x_then_normal ?_
   obtain ⟨l10124, hj10126, hk10126⟩ := bindS hm
   refine c_join (fun b10119 e' hp' => ∃ (hs10122 : Hp), [(0, .slice A3 (l10124).length c4), (1, .int .i64 (x20)), (2, .int .i64 (x21)), (3, .func (.func 36) #[] #[.pointer (some ⟨g16, 0, none⟩), .pointer (some ⟨g17, 0, none⟩), .pointer (some ⟨g18, 0, none⟩)]), (8, .int .i64 (x9206))] = e' ∧ (g16, Cl 24 [.pointer (some ⟨g19, 0, none⟩)]) :: (g17, Cl 3 [.int .i64 (x22)]) :: (g18, Cl 3 [.int .i64 (x23)]) :: (g19, Cl 54 [.int .i64 (x24), .int .i64 (x25), .int .i64 (x26), .slice A8 (l28).length c9, .slice A13 (l30).length c14]) :: (hs10122 ++ (hs7 ++ (hs12 ++ R))) = hp' ∧ b9201.Le b10119 ∧ OS 3 (OT.fr (RT.int .i64)) b10119.w (.slice A3 l10124.length c4) l10124 hs10122 ∧ l10124.length = l27.length) ?_ ?_
   ·
    have hm := hj10126
    refine c_block ?_
    refine c_sr ?_
    refine t_mv rfl rfl ?_
    refine t_as rfl rfl ?_
    refine t_ne ?_
    refine c_block ?_
    refine c_pullb 3 rfl ?_
    refine c_pullb 3 rfl ?_
    refine c_pullb 3 rfl ?_
    refine c_pullb 3 rfl ?_
    refine c_front3 [_, _, _, _] hs9204 hs7 hs12 R rfl ?_
    refine c_front3 [_, _, _, _] hs12 hs9204 hs7 R rfl ?_
    refine c_front3 [_, _, _, _] hs7 hs12 hs9204 R rfl ?_
    refine c_loopM (unc2 fun x10735 l10736 => fun b10730 e' hp' => ∃ (hs10733 : Hp), [(0, .slice A3 (l10736).length c4), (1, .int .i64 (x20)), (2, .int .i64 (x21)), (3, .func (.func 36) #[] #[.pointer (some ⟨g16, 0, none⟩), .pointer (some ⟨g17, 0, none⟩), .pointer (some ⟨g18, 0, none⟩)]), (8, .int .i64 (x9206)), (9, .int .i64 (x10735))] = e' ∧ (g16, Cl 24 [.pointer (some ⟨g19, 0, none⟩)]) :: (g17, Cl 3 [.int .i64 (x22)]) :: (g18, Cl 3 [.int .i64 (x23)]) :: (g19, Cl 54 [.int .i64 (x24), .int .i64 (x25), .int .i64 (x26), .slice A8 (l28).length c9, .slice A13 (l30).length c14]) :: (hs10733 ++ (hs7 ++ (hs12 ++ R))) = hp' ∧ b9201.Le b10730 ∧ OS 3 (OT.fr (RT.int .i64)) b10730.w (.slice A3 l10736.length c4) l10736 hs10733 ∧ l10736.length = l27.length) hm (e' := [(0, .slice A3 (l9207).length c4), (1, .int .i64 (x20)), (2, .int .i64 (x21)), (3, .func (.func 36) #[] #[.pointer (some ⟨g16, 0, none⟩), .pointer (some ⟨g17, 0, none⟩), .pointer (some ⟨g18, 0, none⟩)]), (8, .int .i64 (x9206)), (9, .int .i64 (x9206))]) ⟨rfl, rfl, rfl, rfl, rfl, rfl, trivial⟩ (.refl _) ⟨hs9204, rfl, rfl, (Base.Le.refl _), h9205, hln9208⟩ ?_
    rintro ⟨x10735, l10736⟩ b10730 _ _ oL10127 ⟨hs10733, rfl, rfl, hle10731, h10734, hln10737⟩ hstepL10127 houtL10127
    unfold mSlicesInsertionSortCmpFunc_L10127 at hstepL10127
    have hm := (unc2E hstepL10127)
    refine c_seq ?_
    obtain ⟨x10816, hj10817, hk10817⟩ := bindS hm
    refine c_join (fun b10814 e' hp' => [(0, .slice A3 (l10736).length c4), (1, .int .i64 (x20)), (2, .int .i64 (x21)), (3, .func (.func 36) #[] #[.pointer (some ⟨g16, 0, none⟩), .pointer (some ⟨g17, 0, none⟩), .pointer (some ⟨g18, 0, none⟩)]), (8, .int .i64 (x9206)), (9, .int .i64 (x10735)), (34, .bool (x10816))] = e' ∧ (g16, Cl 24 [.pointer (some ⟨g19, 0, none⟩)]) :: (g17, Cl 3 [.int .i64 (x22)]) :: (g18, Cl 3 [.int .i64 (x23)]) :: (g19, Cl 54 [.int .i64 (x24), .int .i64 (x25), .int .i64 (x26), .slice A8 (l28).length c9, .slice A13 (l30).length c14]) :: (hs10733 ++ (hs7 ++ (hs12 ++ R))) = hp' ∧ b10730.Le b10814) ?_ ?_
    ·
     have hm := hj10817
     by_cases hc10856 : x20 < x10735
     ·
      rw [if_pos hc10856] at hm
      obtain ⟨x10857, h10858, hm⟩ := bindS hm
      obtain ⟨_, h10873, hm⟩ := bindS hm
      obtain ⟨x10874, h10875, hm⟩ := bindS hm
      obtain ⟨x10890, hcl10891, hm⟩ := bindS hm
      refine D_drawI mixed (.cons _ (.cons _ (.cons _ (.cons _ (sub_app hs10733 (sub_skip hs7 (sub_skip hs12 (.refl _)))))))) ?_
      refine E_s0 0 rfl (st_move rfl) ?_
      refine E_s0 1 rfl (st_move rfl) ?_
      refine E_s0 2 rfl (st_gtr_t rfl rfl hc10856) ?_
      refine E_s0 3 rfl (st_move rfl) ?_
      refine E_y0 4 21 rfl (st_move rfl) ?_
      refine E_y0 5 21 rfl (st_move rfl) ?_
      refine E_y0 6 21 rfl (st_move rfl) ?_
      obtain ⟨j10859, hj10860, hx10861⟩ := idx_some h10858
      obtain ⟨cs10862, hs10867, P10868, P10869, hq10870, hr10863, hcs10864, hA10865, hlt10866, hb10871, hho10872⟩ := OS.get (sz := 1) rfl (by decide) h10734 hx10861
      obtain ⟨rfl, rfl⟩ := hr10863
      refine E_y0 7 21 rfl (st_index_old j10859 rfl rfl hj10860 hlt10866 hA10865 sl22) ?_
      refine E_yes 8 21 rfl (st_load_rd rfl one3 (fun w ho => hcs10864 w _ ho (List.sublist_append_left _ _) 0 _ rfl)) ?_
      refine E_y0 9 21 rfl (st_move rfl) ?_
      refine E_y0 10 21 rfl (st_move rfl) ?_
      have h10873 := (chk_some h10873).2
      refine E_y0 11 21 rfl (st_sub rfl rfl h10873) ?_
      obtain ⟨j10876, hj10877, hx10878⟩ := idx_some h10875
      obtain ⟨cs10879, hs10884, P10885, P10886, hq10887, hr10880, hcs10881, hA10882, hlt10883, hb10888, hho10889⟩ := OS.get (sz := 1) rfl (by decide) h10734 hx10878
      obtain ⟨rfl, rfl⟩ := hr10880
      refine E_y0 12 21 rfl (st_index_old j10876 rfl rfl hj10877 hlt10883 hA10882 sl22) ?_
      refine E_yes 13 21 rfl (st_load_rd rfl one3 (fun w ho => hcs10881 w _ ho (List.sublist_append_left _ _) 0 _ rfl)) ?_
      refine E_out ?_
      refine d_pullb 3 rfl ?_
      refine d_pullb 3 rfl ?_
      refine d_pullb 3 rfl ?_
      refine d_pullb 3 rfl ?_
      refine d_front3 [_, _, _, _] hs10733 hs7 hs12 R rfl ?_
      refine d_front3 [_, _, _, _] hs12 hs10733 hs7 R rfl ?_
      refine d_out2 [_, _, _, _] [] hs7 hs12 (hs10733 ++ R) rfl ?_
      refine D_all [14] (by kernel_rfl) rfl ?_
      refine R_callvGY (Base.Le.refl _) rfl rfl 21 rfl rfl rfl #[] #[.pointer (some ⟨g16, 0, none⟩), .pointer (some ⟨g17, 0, none⟩), .pointer (some ⟨g18, 0, none⟩)] [.int .i64 (x10857), .int .i64 (x10874)] rfl call36 rfl (cFareCarChoose_1 _ _ x10857 x10874 x22 x23 x24 x25 x26 l28 l30 g16 g17 g18 g19 A8 c9 hs7 A13 c14 hs12 (h10.le (hle9202.trans hle10731)) hnz29 (h15.le (hle9202.trans hle10731)) hnz31 x10890 hcl10891) ?_ ?_
      ·
       rintro _ b10892 _ hle10893 ⟨rfl, rfl⟩
       refine ⟨.inr (.cons _ (.cons _ (.cons _ (.cons _ (sub_skip hs7 (sub_skip hs12 (.refl _))))))), ?_⟩
       refine d_in2 [_, _, _, _] [] hs7 hs12 (hs10733 ++ R) rfl ?_
       refine E_in hle10893 (.cons _ (.cons _ (.cons _ (.cons _ (sub_skip hs7 (sub_skip hs12 (.refl _))))))) ?_
       refine E_y0 15 21 rfl (st_lss rfl rfl) ?_
       refine E_s0 16 rfl (st_pick_t rfl rfl) ?_
       refine E_out ?_
       refine D_done (by kernel_rfl) ?_
       obtain rfl := some1 hm
       refine x_pullb 3 rfl ?_
       refine x_pullb 3 rfl ?_
       refine x_pullb 3 rfl ?_
       refine x_pullb 3 rfl ?_
       refine x_front2 [_, _, _, _] hs7 hs12 (hs10733 ++ R) rfl ?_
       refine x_front2 [_, _, _, _] hs12 hs7 (hs10733 ++ R) rfl ?_
       refine x_front3 [_, _, _, _] hs7 hs12 hs10733 R rfl ?_
       exact x_join (e' := [(0, .slice A3 (l10736).length c4), (1, .int .i64 (x20)), (2, .int .i64 (x21)), (3, .func (.func 36) #[] #[.pointer (some ⟨g16, 0, none⟩), .pointer (some ⟨g17, 0, none⟩), .pointer (some ⟨g18, 0, none⟩)]), (8, .int .i64 (x9206)), (9, .int .i64 (x10735)), (34, .bool (decide (x10890 < 0)))]) ⟨rfl, rfl, rfl, rfl, rfl, rfl, rfl, trivial⟩ (.refl _) ⟨rfl, rfl, hle10893⟩
      exact R_nil
     ·
      rw [if_neg hc10856] at hm
      refine D_drawI mixed (.refl _) ?_
      refine E_s0 0 rfl (st_move rfl) ?_
      refine E_s0 1 rfl (st_move rfl) ?_
      refine E_s0 2 rfl (st_gtr_f rfl rfl hc10856) ?_
      refine E_s0 3 rfl (st_move rfl) ?_
      refine E_no 4 21 rfl rfl rfl ?_
      refine E_no 5 21 rfl rfl rfl ?_
      refine E_no 6 21 rfl rfl rfl ?_
      refine E_no 7 21 rfl rfl rfl ?_
      refine E_no 8 21 rfl rfl rfl ?_
      refine E_no 9 21 rfl rfl rfl ?_
      refine E_no 10 21 rfl rfl rfl ?_
      refine E_no 11 21 rfl rfl rfl ?_
      refine E_no 12 21 rfl rfl rfl ?_
      refine E_no 13 21 rfl rfl rfl ?_
      refine E_no 14 21 rfl rfl rfl ?_
      refine E_no 15 21 rfl rfl rfl ?_
      refine E_s0 16 rfl (st_pick_f rfl rfl) ?_
      refine E_out ?_
      refine D_done (by kernel_rfl) ?_
      obtain rfl := some1 hm
      refine x_pullb 3 rfl ?_
      refine x_pullb 3 rfl ?_
      refine x_pullb 3 rfl ?_
      refine x_pullb 3 rfl ?_
      refine x_front3 [_, _, _, _] hs10733 hs7 hs12 R rfl ?_
      refine x_front3 [_, _, _, _] hs12 hs10733 hs7 R rfl ?_
      refine x_front3 [_, _, _, _] hs7 hs12 hs10733 R rfl ?_
      exact x_join (e' := [(0, .slice A3 (l10736).length c4), (1, .int .i64 (x20)), (2, .int .i64 (x21)), (3, .func (.func 36) #[] #[.pointer (some ⟨g16, 0, none⟩), .pointer (some ⟨g17, 0, none⟩), .pointer (some ⟨g18, 0, none⟩)]), (8, .int .i64 (x9206)), (9, .int .i64 (x10735)), (34, .bool (false))]) ⟨rfl, rfl, rfl, rfl, rfl, rfl, rfl, trivial⟩ (.refl _) ⟨rfl, rfl, (Base.Le.refl _)⟩
    ·
     rintro b10814 _ _ ⟨rfl, rfl, hle10815⟩
     have hm := hk10817
     refine c_cond _ rfl (fun hc10894 => ?_) (fun hc10894 => ?_)
     ·
      rw [if_pos hc10894] at hm
      refine c_skip ?_
      refine x_then_normal ?_
      refine c_seq ?_
      refine c_block ?_
      obtain ⟨_, h10965, hm⟩ := bindS hm
      obtain ⟨_, h10966, hm⟩ := bindS hm
      obtain ⟨x10967, h10968, hm⟩ := bindS hm
      obtain ⟨x10983, h10984, hm⟩ := bindS hm
      obtain ⟨x10999, h11000, hm⟩ := bindS hm
      obtain ⟨x11017, h11018, hm⟩ := bindS hm
      refine D_drawI mixed (.refl _) ?_
      refine E_s0 0 rfl (st_move rfl) ?_
      refine E_s0 1 rfl (st_move rfl) ?_
      refine E_s0 2 rfl (st_move rfl) ?_
      refine E_s0 3 rfl (st_move rfl) ?_
      have h10965 := (chk_some h10965).2
      refine E_s0 4 rfl (st_sub rfl rfl h10965) ?_
      refine E_s0 5 rfl (st_move rfl) ?_
      refine E_s0 6 rfl (st_move rfl) ?_
      have h10966 := (chk_some h10966).2
      refine E_s0 7 rfl (st_sub rfl rfl h10966) ?_
      obtain ⟨j10969, hj10970, hx10971⟩ := idx_some h10968
      obtain ⟨cs10972, hs10977, P10978, P10979, hq10980, hr10973, hcs10974, hA10975, hlt10976, hb10981, hho10982⟩ := OS.get (sz := 1) rfl (by decide) (h10734.le hle10815) hx10971
      obtain ⟨rfl, rfl⟩ := hr10973
      refine E_s0 8 rfl (st_index_old j10969 rfl rfl hj10970 hlt10976 hA10975 sl22) ?_
      refine E_st 9 rfl (st_load_rd rfl one3 (fun w ho => hcs10974 w _ ho (.cons _ (.cons _ (.cons _ (.cons _ (List.sublist_append_left _ _))))) 0 _ rfl)) ?_
      refine E_s0 10 rfl (st_move rfl) ?_
      refine E_s0 11 rfl (st_move rfl) ?_
      obtain ⟨j10985, hj10986, hx10987⟩ := idx_some h10984
      obtain ⟨cs10988, hs10993, P10994, P10995, hq10996, hr10989, hcs10990, hA10991, hlt10992, hb10997, hho10998⟩ := OS.get (sz := 1) rfl (by decide) (h10734.le hle10815) hx10987
      obtain ⟨rfl, rfl⟩ := hr10989
      refine E_s0 12 rfl (st_index_old j10985 rfl rfl hj10986 hlt10992 hA10991 sl22) ?_
      refine E_st 13 rfl (st_load_rd rfl one3 (fun w ho => hcs10990 w _ ho (.cons _ (.cons _ (.cons _ (.cons _ (List.sublist_append_left _ _))))) 0 _ rfl)) ?_
      obtain ⟨j11001, hj11002, hx11003⟩ := idx_some h11000
      obtain ⟨cs11004, hs11009, P11010, P11011, hq11012, hr11005, hcs11006, hA11007, hlt11008, hb11013, hho11014⟩ := OS.get (sz := 1) rfl (by decide) (h10734.le hle10815) hx11003
      obtain ⟨rfl, rfl⟩ := hr11005
      refine E_s0 14 rfl (st_index_old j11001 rfl rfl hj11002 hlt11008 hA11007 sl22) ?_
      refine E_out ?_
      refine D_all [15] (by kernel_rfl) rfl ?_
      refine R_do (Base.Le.refl _) rfl rfl (u_putOS hj11002 (sz := 1) (a' := x10967) rfl [_, _, _, _] (hs7 ++ (hs12 ++ R)) 0 1 [.int .i64 (x10967)] rfl (h10734.le hle10815) hx11003 rfl rfl rfl siz3 rfl (mem_c rfl mem_n) (fun cs hsj hh => by obtain ⟨rfl, rfl⟩ := hh; exact ⟨by decide, rfl, rfl⟩)) ?_ ?_
      ·
       rintro _ _ ⟨hs11015, rfl, h11016⟩
       refine ⟨.inl (by kernel_rfl), ?_⟩
       refine d_resp 0 rfl (v' := .slice A3 (put l10736 x10735 x10967).length c4) (by simp only [put_length]) ?_
       refine d_resp 39 rfl (v' := .slice A3 (put l10736 x10735 x10967).length c4) (by simp only [put_length]) ?_
       obtain ⟨j11019, hj11020, hx11021⟩ := idx_some h11018
       obtain ⟨cs11022, hs11027, P11028, P11029, hq11030, hr11023, hcs11024, hA11025, hlt11026, hb11031, hho11032⟩ := OS.get (sz := 1) rfl (by decide) h11016 hx11021
       obtain ⟨rfl, rfl⟩ := hr11023
       refine E_il (Base.Le.refl _) ?_
       refine E_s0 16 rfl (st_index_old j11019 rfl rfl hj11020 hlt11026 hA11025 sl22) ?_
       refine E_out ?_
       refine D_all [17] (by kernel_rfl) rfl ?_
       refine R_do (Base.Le.refl _) rfl rfl (u_putOS hj11020 (sz := 1) (a' := x10983) rfl [_, _, _, _] (hs7 ++ (hs12 ++ R)) 0 1 [.int .i64 (x10983)] rfl h11016 hx11021 rfl rfl rfl siz3 rfl (mem_c rfl mem_n) (fun cs hsj hh => by obtain ⟨rfl, rfl⟩ := hh; exact ⟨by decide, rfl, rfl⟩)) ?_ ?_
       ·
        rintro _ _ ⟨hs11033, rfl, h11034⟩
        refine ⟨.inl (by kernel_rfl), ?_⟩
        refine d_resp 0 rfl (v' := .slice A3 (put (put l10736 x10735 x10967) (x10735 - 1) x10983).length c4) (by simp only [put_length]) ?_
        refine D_done (by kernel_rfl) ?_
        refine x_block_normal ?_
        refine x_then_normal ?_
        refine c_region ?_
        refine t_mv rfl rfl ?_
        obtain ⟨_, h11035, hm⟩ := bindS hm
        have h11035 := (chk_some h11035).2
        refine t_st rfl (st_sub rfl rfl h11035) ?_
        refine t_as rfl rfl ?_
        refine t_nil ?_
        refine x_pullb 3 rfl ?_
        refine x_pullb 3 rfl ?_
        refine x_pullb 3 rfl ?_
        refine x_pullb 3 rfl ?_
        refine x_front3 [_, _, _, _] hs11033 hs7 hs12 R rfl ?_
        refine x_front3 [_, _, _, _] hs12 hs11033 hs7 R rfl ?_
        refine x_front3 [_, _, _, _] hs7 hs12 hs11033 R rfl ?_
        exact x_againM (x10735 - 1, put (put l10736 x10735 x10967) (x10735 - 1) x10983) (Option.some.inj hm).symm (e' := [(0, .slice A3 (put (put l10736 x10735 x10967) (x10735 - 1) x10983).length c4), (1, .int .i64 (x20)), (2, .int .i64 (x21)), (3, .func (.func 36) #[] #[.pointer (some ⟨g16, 0, none⟩), .pointer (some ⟨g17, 0, none⟩), .pointer (some ⟨g18, 0, none⟩)]), (8, .int .i64 (x9206)), (9, .int .i64 (x10735 - 1))]) ⟨rfl, rfl, rfl, rfl, rfl, rfl, trivial⟩ (.refl _) ⟨hs11033, rfl, rfl, ((hle10731.trans hle10815)), h11034, ((put_length _ _ _).trans ((put_length _ _ _).trans hln10737))⟩
       exact R_nil
      exact R_nil
     ·
      rw [if_neg (fun hh => Bool.noConfusion (hh.symm.trans hc10894))] at hm
      refine c_exit ?_
      refine x_then_exit ?_
      refine x_then_exit ?_
      refine x_block_out ?_
      have hm := congrArg some (houtL10127 _ (Option.some.inj hm).symm)
      refine x_block_normal ?_
      obtain rfl := some1 hm
      refine x_pullb 3 rfl ?_
      refine x_pullb 3 rfl ?_
      refine x_pullb 3 rfl ?_
      refine x_pullb 3 rfl ?_
      refine x_front3 [_, _, _, _] hs10733 hs7 hs12 R rfl ?_
      refine x_front3 [_, _, _, _] hs12 hs10733 hs7 R rfl ?_
      refine x_front3 [_, _, _, _] hs7 hs12 hs10733 R rfl ?_
      exact x_join (e' := [(0, .slice A3 (l10736).length c4), (1, .int .i64 (x20)), (2, .int .i64 (x21)), (3, .func (.func 36) #[] #[.pointer (some ⟨g16, 0, none⟩), .pointer (some ⟨g17, 0, none⟩), .pointer (some ⟨g18, 0, none⟩)]), (8, .int .i64 (x9206))]) ⟨rfl, rfl, rfl, rfl, rfl, trivial⟩ (.refl _) ⟨hs10733, rfl, rfl, (hle10731.trans hle10815), (h10734.le hle10815), hln10737⟩
   ·
    rintro b10119 _ _ ⟨hs10122, rfl, rfl, hle10120, h10123, hln10125⟩
    have hm := hk10126
    refine c_region ?_
    refine t_mv rfl rfl ?_
    obtain ⟨_, h11036, hm⟩ := bindS hm
    have h11036 := (chk_some h11036).2
    refine t_st rfl (st_add rfl rfl h11036) ?_
    refine t_as rfl rfl ?_
    refine t_nil ?_
    refine x_pullb 3 rfl ?_
    refine x_pullb 3 rfl ?_
    refine x_pullb 3 rfl ?_
    refine x_pullb 3 rfl ?_
    refine x_front3 [_, _, _, _] hs10122 hs7 hs12 R rfl ?_
    refine x_front3 [_, _, _, _] hs12 hs10122 hs7 R rfl ?_
    refine x_front3 [_, _, _, _] hs7 hs12 hs10122 R rfl ?_
    exact x_againM (x9206 + 1, l10124) (Option.some.inj hm).symm (e' := [(0, .slice A3 (l10124).length c4), (1, .int .i64 (x20)), (2, .int .i64 (x21)), (3, .func (.func 36) #[] #[.pointer (some ⟨g16, 0, none⟩), .pointer (some ⟨g17, 0, none⟩), .pointer (some ⟨g18, 0, none⟩)]), (8, .int .i64 (x9206 + 1))]) ⟨rfl, rfl, rfl, rfl, rfl, trivial⟩ (.refl _) ⟨hs10122, rfl, rfl, ((hle9202.trans hle10120)), h10123, hln10125⟩
  ·
   rw [if_neg (of_decide_eq_false hc9209)] at hm
   refine c_exit ?_
   refine x_then_exit ?_
   refine x_then_exit ?_
   refine x_block_out ?_
   have hm := congrArg some (houtL5538 _ (Option.some.inj hm).symm)
   obtain rfl := some1 hm
   refine x_pullb 3 rfl ?_
   refine x_pullb 3 rfl ?_
   refine x_pullb 3 rfl ?_
   refine x_pullb 3 rfl ?_
   refine x_front3 [_, _, _, _] hs9204 hs7 hs12 R rfl ?_
   refine x_front3 [_, _, _, _] hs12 hs9204 hs7 R rfl ?_
   refine x_front3 [_, _, _, _] hs7 hs12 hs9204 R rfl ?_
   exact endM hle9202 rfl (.refl _) ⟨hs9204, rfl, rfl, h9205, hln9208⟩

set_option maxRecDepth 20000 in
theorem cSlicesSwapRangeCmpFunc (b : Base) (R : Hp) (x20 : Int) (x21 : Int) (x22 : Int) (x23 : Int) (x24 : Int) (x25 : Int) (x26 : Int) (x27 : Int) (l28 : (List Int)) (l29 : (List FareBooking)) (l31 : (List Bool)) (g16 : Nat) (g17 : Nat) (g18 : Nat) (g19 : Nat) (A3 : Option Addr) (c4 : Nat) (hs2 : Hp) (A8 : Option Addr) (c9 : Nat) (hs7 : Hp) (A13 : Option Addr) (c14 : Nat) (hs12 : Hp) (h5 : OS 3 (OT.fr (RT.int .i64)) b.w (.slice A3 l28.length c4) l28 hs2) (h10 : OS 32 (OT.fr rFareBooking) b.w (.slice A8 l29.length c9) l29 hs7) (hnz30 : (A8 = none ↔ l29 = [])) (h15 : OS 4 (OT.fr RT.bool) b.w (.slice A13 l31.length c14) l31 hs12) (hnz32 : (A13 = none ↔ l31 = [])) (l489 : (List Int)) (hm : mSlicesSwapRangeCmpFunc x20 x21 x22 x23 x24 x25 x26 x27 l28 l29 l31 = some l489) :
    CallsG Tryz.prog 107 [.slice A3 (l28).length c4, .int .i64 (x20), .int .i64 (x21), .int .i64 (x22), .func (.func 36) #[] #[.pointer (some ⟨g16, 0, none⟩), .pointer (some ⟨g17, 0, none⟩), .pointer (some ⟨g18, 0, none⟩)]] b ((g16, Cl 24 [.pointer (some ⟨g19, 0, none⟩)]) :: (g17, Cl 3 [.int .i64 (x23)]) :: (g18, Cl 3 [.int .i64 (x24)]) :: (g19, Cl 54 [.int .i64 (x25), .int .i64 (x26), .int .i64 (x27), .slice A8 (l29).length c9, .slice A13 (l31).length c14]) :: (hs2 ++ (hs7 ++ (hs12 ++ R)))) (fun v b' hp' => ∃ (hs487 : Hp), .tuple #[] = v ∧ (g16, Cl 24 [.pointer (some ⟨g19, 0, none⟩)]) :: (g17, Cl 3 [.int .i64 (x23)]) :: (g18, Cl 3 [.int .i64 (x24)]) :: (g19, Cl 54 [.int .i64 (x25), .int .i64 (x26), .int .i64 (x27), .slice A8 (l29).length c9, .slice A13 (l31).length c14]) :: (hs487 ++ (hs7 ++ (hs12 ++ R))) = hp' ∧ OS 3 (OT.fr (RT.int .i64)) b'.w (.slice A3 l489.length c4) l489 hs487 ∧ l489.length = l28.length) := by
  refine fn_enterG 38 Tryz.func107 rfl Tryz.ntmps107 rfl ?_
  unfold mSlicesSwapRangeCmpFunc at hm
  refine c_sr ?_
  refine t_as rfl rfl ?_
  refine t_ne ?_
  refine c_block ?_
  refine c_pullb 3 rfl ?_
  refine c_pullb 3 rfl ?_
  refine c_pullb 3 rfl ?_
  refine c_pullb 3 rfl ?_
  refine c_front3 [_, _, _, _] hs2 hs7 hs12 R rfl ?_
  refine c_front3 [_, _, _, _] hs12 hs2 hs7 R rfl ?_
  refine c_front3 [_, _, _, _] hs7 hs12 hs2 R rfl ?_
  refine c_loopM (unc2 fun x795 l796 => fun b790 e' hp' => ∃ (hs793 : Hp), [(0, .slice A3 (l796).length c4), (1, .int .i64 (x20)), (2, .int .i64 (x21)), (3, .int .i64 (x22)), (10, .int .i64 (x795))] = e' ∧ (g16, Cl 24 [.pointer (some ⟨g19, 0, none⟩)]) :: (g17, Cl 3 [.int .i64 (x23)]) :: (g18, Cl 3 [.int .i64 (x24)]) :: (g19, Cl 54 [.int .i64 (x25), .int .i64 (x26), .int .i64 (x27), .slice A8 (l29).length c9, .slice A13 (l31).length c14]) :: (hs793 ++ (hs7 ++ (hs12 ++ R))) = hp' ∧ b.Le b790 ∧ OS 3 (OT.fr (RT.int .i64)) b790.w (.slice A3 l796.length c4) l796 hs793 ∧ l796.length = l28.length) hm (e' := [(0, .slice A3 (l28).length c4), (1, .int .i64 (x20)), (2, .int .i64 (x21)), (3, .int .i64 (x22)), (10, .int .i64 (0))]) ⟨rfl, rfl, rfl, rfl, rfl, trivial⟩ (.refl _) ⟨hs2, rfl, rfl, (Base.Le.refl _), h5, rfl⟩ ?_
  rintro ⟨x795, l796⟩ b790 _ _ oL491 ⟨hs793, rfl, rfl, hle791, h794, hln797⟩ hstepL491 houtL491
  unfold mSlicesSwapRangeCmpFunc_L491 at hstepL491
  have hm := (unc2E hstepL491)
  refine c_seq ?_
  refine c_sr ?_
  refine t_mv rfl rfl ?_
  refine t_mv rfl rfl ?_
  refine t_st rfl (st_lss rfl rfl) ?_
  refine t_ne ?_
  refine c_cond _ rfl (fun hc798 => ?_) (fun hc798 => ?_)
  ·
   rw [if_pos (of_decide_eq_true hc798)] at hm
   refine c_skip ?_
   refine x_then_normal ?_
   refine c_seq ?_
   refine c_block ?_
   obtain ⟨_, h871, hm⟩ := bindS hm
   obtain ⟨_, h872, hm⟩ := bindS hm
   obtain ⟨_, h873, hm⟩ := bindS hm
   obtain ⟨x874, h875, hm⟩ := bindS hm
   obtain ⟨_, h890, hm⟩ := bindS hm
   obtain ⟨x891, h892, hm⟩ := bindS hm
   obtain ⟨x907, h908, hm⟩ := bindS hm
   obtain ⟨x925, h926, hm⟩ := bindS hm
   refine D_drawI mixed (.refl _) ?_
   refine E_s0 0 rfl (st_move rfl) ?_
   refine E_s0 1 rfl (st_move rfl) ?_
   refine E_s0 2 rfl (st_move rfl) ?_
   have h871 := (chk_some h871).2
   refine E_s0 3 rfl (st_add rfl rfl h871) ?_
   refine E_s0 4 rfl (st_move rfl) ?_
   refine E_s0 5 rfl (st_move rfl) ?_
   refine E_s0 6 rfl (st_move rfl) ?_
   have h872 := (chk_some h872).2
   refine E_s0 7 rfl (st_add rfl rfl h872) ?_
   refine E_s0 8 rfl (st_move rfl) ?_
   refine E_s0 9 rfl (st_move rfl) ?_
   refine E_s0 10 rfl (st_move rfl) ?_
   have h873 := (chk_some h873).2
   refine E_s0 11 rfl (st_add rfl rfl h873) ?_
   obtain ⟨j876, hj877, hx878⟩ := idx_some h875
   obtain ⟨cs879, hs884, P885, P886, hq887, hr880, hcs881, hA882, hlt883, hb888, hho889⟩ := OS.get (sz := 1) rfl (by decide) h794 hx878
   obtain ⟨rfl, rfl⟩ := hr880
   refine E_s0 12 rfl (st_index_old j876 rfl rfl hj877 hlt883 hA882 sl22) ?_
   refine E_st 13 rfl (st_load_rd rfl one3 (fun w ho => hcs881 w _ ho (.cons _ (.cons _ (.cons _ (.cons _ (List.sublist_append_left _ _))))) 0 _ rfl)) ?_
   refine E_s0 14 rfl (st_move rfl) ?_
   refine E_s0 15 rfl (st_move rfl) ?_
   refine E_s0 16 rfl (st_move rfl) ?_
   have h890 := (chk_some h890).2
   refine E_s0 17 rfl (st_add rfl rfl h890) ?_
   obtain ⟨j893, hj894, hx895⟩ := idx_some h892
   obtain ⟨cs896, hs901, P902, P903, hq904, hr897, hcs898, hA899, hlt900, hb905, hho906⟩ := OS.get (sz := 1) rfl (by decide) h794 hx895
   obtain ⟨rfl, rfl⟩ := hr897
   refine E_s0 18 rfl (st_index_old j893 rfl rfl hj894 hlt900 hA899 sl22) ?_
   refine E_st 19 rfl (st_load_rd rfl one3 (fun w ho => hcs898 w _ ho (.cons _ (.cons _ (.cons _ (.cons _ (List.sublist_append_left _ _))))) 0 _ rfl)) ?_
   obtain ⟨j909, hj910, hx911⟩ := idx_some h908
   obtain ⟨cs912, hs917, P918, P919, hq920, hr913, hcs914, hA915, hlt916, hb921, hho922⟩ := OS.get (sz := 1) rfl (by decide) h794 hx911
   obtain ⟨rfl, rfl⟩ := hr913
   refine E_s0 20 rfl (st_index_old j909 rfl rfl hj910 hlt916 hA915 sl22) ?_
   refine E_out ?_
   refine D_all [21] (by kernel_rfl) rfl ?_
   refine R_do (Base.Le.refl _) rfl rfl (u_putOS hj910 (sz := 1) (a' := x874) rfl [_, _, _, _] (hs7 ++ (hs12 ++ R)) 0 1 [.int .i64 (x874)] rfl h794 hx911 rfl rfl rfl siz3 rfl (mem_c rfl mem_n) (fun cs hsj hh => by obtain ⟨rfl, rfl⟩ := hh; exact ⟨by decide, rfl, rfl⟩)) ?_ ?_
   ·
    rintro _ _ ⟨hs923, rfl, h924⟩
    refine ⟨.inl (by kernel_rfl), ?_⟩
    refine d_resp 0 rfl (v' := .slice A3 (put l796 (x20 + x795) x874).length c4) (by simp only [put_length]) ?_
    refine d_resp 20 rfl (v' := .slice A3 (put l796 (x20 + x795) x874).length c4) (by simp only [put_length]) ?_
    obtain ⟨j927, hj928, hx929⟩ := idx_some h926
    obtain ⟨cs930, hs935, P936, P937, hq938, hr931, hcs932, hA933, hlt934, hb939, hho940⟩ := OS.get (sz := 1) rfl (by decide) h924 hx929
    obtain ⟨rfl, rfl⟩ := hr931
    refine E_il (Base.Le.refl _) ?_
    refine E_s0 22 rfl (st_index_old j927 rfl rfl hj928 hlt934 hA933 sl22) ?_
    refine E_out ?_
    refine D_all [23] (by kernel_rfl) rfl ?_
    refine R_do (Base.Le.refl _) rfl rfl (u_putOS hj928 (sz := 1) (a' := x891) rfl [_, _, _, _] (hs7 ++ (hs12 ++ R)) 0 1 [.int .i64 (x891)] rfl h924 hx929 rfl rfl rfl siz3 rfl (mem_c rfl mem_n) (fun cs hsj hh => by obtain ⟨rfl, rfl⟩ := hh; exact ⟨by decide, rfl, rfl⟩)) ?_ ?_
    ·
     rintro _ _ ⟨hs941, rfl, h942⟩
     refine ⟨.inl (by kernel_rfl), ?_⟩
     refine d_resp 0 rfl (v' := .slice A3 (put (put l796 (x20 + x795) x874) (x21 + x795) x891).length c4) (by simp only [put_length]) ?_
     refine D_done (by kernel_rfl) ?_
     refine x_block_normal ?_
     refine x_then_normal ?_
     refine c_region ?_
     refine t_mv rfl rfl ?_
     obtain ⟨_, h943, hm⟩ := bindS hm
     have h943 := (chk_some h943).2
     refine t_st rfl (st_add rfl rfl h943) ?_
     refine t_as rfl rfl ?_
     refine t_nil ?_
     refine x_pullb 3 rfl ?_
     refine x_pullb 3 rfl ?_
     refine x_pullb 3 rfl ?_
     refine x_pullb 3 rfl ?_
     refine x_front3 [_, _, _, _] hs941 hs7 hs12 R rfl ?_
     refine x_front3 [_, _, _, _] hs12 hs941 hs7 R rfl ?_
     refine x_front3 [_, _, _, _] hs7 hs12 hs941 R rfl ?_
     exact x_againM (x795 + 1, put (put l796 (x20 + x795) x874) (x21 + x795) x891) (Option.some.inj hm).symm (e' := [(0, .slice A3 (put (put l796 (x20 + x795) x874) (x21 + x795) x891).length c4), (1, .int .i64 (x20)), (2, .int .i64 (x21)), (3, .int .i64 (x22)), (10, .int .i64 (x795 + 1))]) ⟨rfl, rfl, rfl, rfl, rfl, trivial⟩ (.refl _) ⟨hs941, rfl, rfl, (hle791), h942, ((put_length _ _ _).trans ((put_length _ _ _).trans hln797))⟩
    exact R_nil
   exact R_nil
  ·
   rw [if_neg (of_decide_eq_false hc798)] at hm
   refine c_exit ?_
   refine x_then_exit ?_
   refine x_then_exit ?_
   refine x_block_out ?_
   have hm := congrArg some (houtL491 _ (Option.some.inj hm).symm)
   obtain rfl := some1 hm
   refine x_pullb 3 rfl ?_
   refine x_pullb 3 rfl ?_
   refine x_pullb 3 rfl ?_
   refine x_pullb 3 rfl ?_
   refine x_front3 [_, _, _, _] hs793 hs7 hs12 R rfl ?_
   refine x_front3 [_, _, _, _] hs12 hs793 hs7 R rfl ?_
   refine x_front3 [_, _, _, _] hs7 hs12 hs793 R rfl ?_
   exact endM hle791 rfl (.refl _) ⟨hs793, rfl, rfl, h794, hln797⟩

end Go.Proofs.YthcgoaejnpelbaaGreatDoor
