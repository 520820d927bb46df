/- Contracts: the code computes its model (part 2). -/
import Derived.Test.YtnlnohallnfbmaaGreatDoorQP1
set_option linter.unusedVariables false
set_option linter.unusedSimpArgs false
namespace Go.Proofs.YtnlnohallnfbmaaGreatDoor
open Go.RowKit Go.Fp

set_option maxRecDepth 20000 in
theorem cFareCondHolds : ∀ (N : Nat) (b : Base) (R : Hp) (s1 : FareCond) (s2 : FareTrip) (A3 : Option Addr) (c4 : Nat) (h5 : FZ (RT.int .i64) b.w A3 c4 s2.Zones) (x203 : Bool) (hm : mFareCondHolds N s1 s2 = some x203),
    CallsG Tryz.prog 66 [.agg #[.int .i64 (s1.Kind), .int .i64 (s1.A), .int .i64 (s1.B), .slice none 0 0], .agg #[.int .i64 (s2.Day), .int .i64 (s2.At), .int .i64 (s2.Km), .int .i64 (s2.Age), .bool (s2.Card), .slice A3 (s2.Zones).length c4]] b (R) (fun v b' hp' => .bool (x203) = v ∧ R = hp') := by
  intro N
  induction N with
  | zero =>
    intro b R s1 s2 A3 c4 h5 x203 hm
    unfold mFareCondHolds at hm
    cases hm
  | succ N ih =>
    intro b R s1 s2 A3 c4 h5 x203 hm
    refine fn_enterG 89 Tryz.func66 rfl Tryz.ntmps66 rfl ?_
    unfold mFareCondHolds at hm
    refine c_sr ?_
    refine t_do rfl (u_box _ rfl rfl) ?_
    rintro _ _ ⟨g204, rfl, rfl⟩
    refine t_do rfl (u_box _ rfl rfl) ?_
    rintro _ _ ⟨g205, rfl, rfl⟩
    refine t_as rfl rfl ?_
    refine t_ne ?_
    refine c_sr ?_
    refine t_st rfl (st_func _ _ rfl rfl) ?_
    refine t_as rfl rfl ?_
    refine t_ne ?_
    refine c_seq ?_
    refine c_sr ?_
    refine t_st rfl (st_field rfl fld63_0) ?_
    refine t_st rfl (st_load 1 rfl one3 rfl rfl) ?_
    refine t_ne ?_
    refine c_block ?_
    refine c_sr ?_
    refine t_st rfl (st_eql rfl rfl) ?_
    refine t_as rfl rfl ?_
    refine t_ne ?_
    refine c_cond _ rfl (fun hc206 => ?_) (fun hc206 => ?_)
    ·
     rw [if_pos (of_decide_eq_true hc206)] at hm
     refine c_sr ?_
     refine t_st rfl (st_field rfl fld69_4) ?_
     refine t_st rfl (st_load 0 rfl one4 rfl rfl) ?_
     refine t_as rfl rfl ?_
     refine t_ne ?_
     refine c_ret ?_
     refine x_block_ret ?_
     refine x_then_ret ?_
     obtain rfl := some1 hm
     exact retM (rs := [.tmp 4]) [.bool (s2.Card)] (Base.Le.refl _) (by decide) rfl ⟨rfl, trivial⟩ rfl (.cons _ (.cons _ (.refl _))) ⟨rfl, rfl⟩
    ·
     rw [if_neg (of_decide_eq_false hc206)] at hm
     refine c_sr ?_
     refine t_st rfl (st_eql rfl rfl) ?_
     refine t_as rfl rfl ?_
     refine t_ne ?_
     refine c_cond _ rfl (fun hc207 => ?_) (fun hc207 => ?_)
     ·
      rw [if_pos (of_decide_eq_true hc207)] at hm
      refine c_sr ?_
      refine t_mv rfl rfl ?_
      refine t_st rfl (st_field rfl fld69_3) ?_
      refine t_st rfl (st_load 0 rfl one3 rfl rfl) ?_
      obtain ⟨x208, hcl209, hm⟩ := bindS hm
      refine t_pullb 1 rfl ?_
      refine t_callvG #[] #[.pointer (some ⟨g204, 0, none⟩)] [.int .i64 (s2.Age)] rfl rfl call84 rfl (cFareCondHolds_1 _ _ s2.Age s1.Kind s1.A s1.B [] g204 none 0 [] OS.nil ⟨fun _ => rfl, fun _ => rfl⟩ x208 hcl209) ?_
      rintro _ b210 _ hle211 ⟨rfl, rfl⟩
      refine t_as rfl rfl ?_
      refine t_ne ?_
      refine c_ret ?_
      refine x_block_ret ?_
      refine x_then_ret ?_
      obtain rfl := some1 hm
      exact retM (rs := [.tmp 4]) [.bool (x208)] hle211 (by decide) rfl ⟨rfl, trivial⟩ rfl (.cons _ (.cons _ (.refl _))) ⟨rfl, rfl⟩
     ·
      rw [if_neg (of_decide_eq_false hc207)] at hm
      refine c_sr ?_
      refine t_st rfl (st_eql rfl rfl) ?_
      refine t_as rfl rfl ?_
      refine t_ne ?_
      refine c_cond _ rfl (fun hc212 => ?_) (fun hc212 => ?_)
      ·
       rw [if_pos (of_decide_eq_true hc212)] at hm
       refine c_sr ?_
       refine t_mv rfl rfl ?_
       refine t_st rfl (st_field rfl fld69_1) ?_
       refine t_st rfl (st_load 0 rfl one3 rfl rfl) ?_
       obtain ⟨x213, hcl214, hm⟩ := bindS hm
       refine t_pullb 1 rfl ?_
       refine t_callvG #[] #[.pointer (some ⟨g204, 0, none⟩)] [.int .i64 (s2.At)] rfl rfl call84 rfl (cFareCondHolds_1 _ _ s2.At s1.Kind s1.A s1.B [] g204 none 0 [] OS.nil ⟨fun _ => rfl, fun _ => rfl⟩ x213 hcl214) ?_
       rintro _ b215 _ hle216 ⟨rfl, rfl⟩
       refine t_as rfl rfl ?_
       refine t_ne ?_
       refine c_ret ?_
       refine x_block_ret ?_
       refine x_then_ret ?_
       obtain rfl := some1 hm
       exact retM (rs := [.tmp 4]) [.bool (x213)] hle216 (by decide) rfl ⟨rfl, trivial⟩ rfl (.cons _ (.cons _ (.refl _))) ⟨rfl, rfl⟩
      ·
       rw [if_neg (of_decide_eq_false hc212)] at hm
       refine c_sr ?_
       refine t_st rfl (st_eql rfl rfl) ?_
       refine t_as rfl rfl ?_
       refine t_ne ?_
       refine c_cond _ rfl (fun hc217 => ?_) (fun hc217 => ?_)
       ·
        rw [if_pos (of_decide_eq_true hc217)] at hm
        refine c_sr ?_
        refine t_mv rfl rfl ?_
        refine t_st rfl (st_field rfl fld69_2) ?_
        refine t_st rfl (st_load 0 rfl one3 rfl rfl) ?_
        obtain ⟨x218, hcl219, hm⟩ := bindS hm
        refine t_pullb 1 rfl ?_
        refine t_callvG #[] #[.pointer (some ⟨g204, 0, none⟩)] [.int .i64 (s2.Km)] rfl rfl call84 rfl (cFareCondHolds_1 _ _ s2.Km s1.Kind s1.A s1.B [] g204 none 0 [] OS.nil ⟨fun _ => rfl, fun _ => rfl⟩ x218 hcl219) ?_
        rintro _ b220 _ hle221 ⟨rfl, rfl⟩
        refine t_as rfl rfl ?_
        refine t_ne ?_
        refine c_ret ?_
        refine x_block_ret ?_
        refine x_then_ret ?_
        obtain rfl := some1 hm
        exact retM (rs := [.tmp 4]) [.bool (x218)] hle221 (by decide) rfl ⟨rfl, trivial⟩ rfl (.cons _ (.cons _ (.refl _))) ⟨rfl, rfl⟩
       ·
        rw [if_neg (of_decide_eq_false hc217)] at hm
        refine c_sr ?_
        refine t_st rfl (st_eql rfl rfl) ?_
        refine t_as rfl rfl ?_
        refine t_ne ?_
        refine c_cond _ rfl (fun hc222 => ?_) (fun hc222 => ?_)
        ·
         rw [if_pos (of_decide_eq_true hc222)] at hm
         refine c_sr ?_
         refine t_mv rfl rfl ?_
         refine t_st rfl (st_field rfl fld69_5) ?_
         refine t_st rfl (st_load 0 rfl one22 rfl rfl) ?_
         refine t_st rfl (st_len rfl sl22) ?_
         obtain ⟨x223, hcl224, hm⟩ := bindS hm
         refine t_pullb 1 rfl ?_
         refine t_callvG #[] #[.pointer (some ⟨g204, 0, none⟩)] [.int .i64 ((s2.Zones.length : Int))] rfl rfl call84 rfl (cFareCondHolds_1 _ _ (s2.Zones.length : Int) s1.Kind s1.A s1.B [] g204 none 0 [] OS.nil ⟨fun _ => rfl, fun _ => rfl⟩ x223 hcl224) ?_
         rintro _ b225 _ hle226 ⟨rfl, rfl⟩
         refine t_as rfl rfl ?_
         refine t_ne ?_
         refine c_ret ?_
         refine x_block_ret ?_
         refine x_then_ret ?_
         obtain rfl := some1 hm
         exact retM (rs := [.tmp 4]) [.bool (x223)] hle226 (by decide) rfl ⟨rfl, trivial⟩ rfl (.cons _ (.cons _ (.refl _))) ⟨rfl, rfl⟩
        ·
         rw [if_neg (of_decide_eq_false hc222)] at hm
         refine c_sr ?_
         refine t_st rfl (st_eql rfl rfl) ?_
         refine t_as rfl rfl ?_
         refine t_ne ?_
         refine c_cond _ rfl (fun hc227 => ?_) (fun hc227 => ?_)
         ·
          rw [if_pos (of_decide_eq_true hc227)] at hm
          refine c_sr ?_
          refine t_st rfl (st_field rfl fld69_5) ?_
          refine t_st rfl (st_load 0 rfl one22 rfl rfl) ?_
          refine t_st rfl (st_field rfl fld63_1) ?_
          refine t_st rfl (st_load 1 rfl one3 rfl rfl) ?_
          obtain ⟨x228, hcl229, hm⟩ := bindS hm
          refine t_do rfl (u_callW0 _ call85 rfl (fun w ho => cSlicesContains _ [] s2.Zones s1.A A3 c4 (h5.old ho) x228 hcl229) (fun _ _ _ h => h.2.symm)) ?_
          rintro _ _ ⟨⟨_, rfl, _⟩, rfl⟩
          refine t_as rfl rfl ?_
          refine t_ne ?_
          refine c_ret ?_
          refine x_block_ret ?_
          refine x_then_ret ?_
          obtain rfl := some1 hm
          exact retM (rs := [.tmp 4]) [.bool (x228)] (Base.Le.refl _) (by decide) rfl ⟨rfl, trivial⟩ rfl (.cons _ (.cons _ (.refl _))) ⟨rfl, rfl⟩
         ·
          rw [if_neg (of_decide_eq_false hc227)] at hm
          refine c_sr ?_
          refine t_st rfl (st_eql rfl rfl) ?_
          refine t_as rfl rfl ?_
          refine t_ne ?_
          refine c_cond _ rfl (fun hc230 => ?_) (fun hc230 => ?_)
          ·
           rw [if_pos (of_decide_eq_true hc230)] at hm
           refine c_seq ?_
           obtain ⟨x241, h242, hm⟩ := bindS hm
           refine D_drawI mixed (.refl _) ?_
           refine E_st 0 rfl (st_field rfl fld69_5) ?_
           refine E_st 1 rfl (st_load 0 rfl one22 rfl rfl) ?_
           obtain ⟨j243, hj244, hx245⟩ := idx_some h242
           obtain ⟨cs246, hr247, hcs248, hA249, hlt250⟩ := FZ.get (sz := 1) rfl (by decide) h5 hx245
           obtain rfl := hr247
           refine E_st 2 rfl (st_index_old j243 rfl rfl hj244 hlt250 hA249 sl22) ?_
           refine E_st 3 rfl (st_load_old rfl one3 (hcs248 0 _ rfl)) ?_
           refine E_st 4 rfl (st_field rfl fld63_1) ?_
           refine E_st 5 rfl (st_load 1 rfl one3 rfl rfl) ?_
           refine E_st 6 rfl (st_eql rfl rfl) ?_
           refine E_st 7 rfl (st_assign rfl) ?_
           refine E_out ?_
           refine D_done (by kernel_rfl) ?_
           refine x_then_normal ?_
           refine c_ret ?_
           refine x_block_ret ?_
           refine x_then_ret ?_
           obtain rfl := some1 hm
           exact retM (rs := [.tmp 4]) [.bool (decide (x241 = s1.A))] (Base.Le.refl _) (by decide) rfl ⟨rfl, trivial⟩ rfl (.cons _ (.cons _ (.refl _))) ⟨rfl, rfl⟩
          ·
           rw [if_neg (of_decide_eq_false hc230)] at hm
           refine c_sr ?_
           refine t_st rfl (st_eql rfl rfl) ?_
           refine t_as rfl rfl ?_
           refine t_ne ?_
           refine c_cond _ rfl (fun hc251 => ?_) (fun hc251 => ?_)
           ·
            rw [if_pos (of_decide_eq_true hc251)] at hm
            refine c_seq ?_
            obtain ⟨_, h263, hm⟩ := bindS hm
            obtain ⟨x264, h265, hm⟩ := bindS hm
            refine D_drawI mixed (.refl _) ?_
            refine E_st 0 rfl (st_field rfl fld69_5) ?_
            refine E_st 1 rfl (st_load 0 rfl one22 rfl rfl) ?_
            refine E_st 2 rfl (st_field rfl fld69_5) ?_
            refine E_st 3 rfl (st_load 0 rfl one22 rfl rfl) ?_
            refine E_st 4 rfl (st_len rfl sl22) ?_
            have h263 := (chk_some h263).2
            refine E_st 5 rfl (st_sub rfl rfl h263) ?_
            obtain ⟨j266, hj267, hx268⟩ := idx_some h265
            obtain ⟨cs269, hr270, hcs271, hA272, hlt273⟩ := FZ.get (sz := 1) rfl (by decide) h5 hx268
            obtain rfl := hr270
            refine E_st 6 rfl (st_index_old j266 rfl rfl hj267 hlt273 hA272 sl22) ?_
            refine E_st 7 rfl (st_load_old rfl one3 (hcs271 0 _ rfl)) ?_
            refine E_st 8 rfl (st_field rfl fld63_1) ?_
            refine E_st 9 rfl (st_load 1 rfl one3 rfl rfl) ?_
            refine E_st 10 rfl (st_eql rfl rfl) ?_
            refine E_st 11 rfl (st_assign rfl) ?_
            refine E_out ?_
            refine D_done (by kernel_rfl) ?_
            refine x_then_normal ?_
            refine c_ret ?_
            refine x_block_ret ?_
            refine x_then_ret ?_
            obtain rfl := some1 hm
            exact retM (rs := [.tmp 4]) [.bool (decide (x264 = s1.A))] (Base.Le.refl _) (by decide) rfl ⟨rfl, trivial⟩ rfl (.cons _ (.cons _ (.refl _))) ⟨rfl, rfl⟩
           ·
            rw [if_neg (of_decide_eq_false hc251)] at hm
            refine c_sr ?_
            refine t_st rfl (st_eql rfl rfl) ?_
            refine t_as rfl rfl ?_
            refine t_ne ?_
            refine c_cond _ rfl (fun hc274 => ?_) (fun hc274 => ?_)
            ·
             rw [if_pos (of_decide_eq_true hc274)] at hm
             refine c_seq ?_
             obtain ⟨x287, h288, hm⟩ := bindS hm
             obtain ⟨x297, hcl298, hm⟩ := bindS hm
             refine D_drawI mixed (.refl _) ?_
             refine E_st 0 rfl (st_field rfl fld63_3) ?_
             refine E_st 1 rfl (st_load 1 rfl one61 rfl rfl) ?_
             obtain ⟨j289, hj290, hx291⟩ := idx_some h288
             obtain ⟨cs292, hr293, hcs294, hA295, hlt296⟩ := FZ.get (sz := 4) rfl (by decide) (FZ.nil (r := rFareCond) (A := none)) hx291
             obtain ⟨_, _, rfl, rfl, ⟨_, _, rfl, rfl, ⟨_, _, rfl, rfl, rfl⟩⟩⟩ := hr293
             refine E_st 2 rfl (st_index_old j289 rfl rfl hj290 hlt296 hA295 sl61) ?_
             refine E_st 3 rfl (st_loadN_old (vs := [.int .i64 (x287.Kind), .int .i64 (x287.A), .int .i64 (x287.B), .slice none 0 0]) 4 rfl agg63 hA295 rfl (fun j u hu => hcs294 j u hu)) ?_
             refine E_st 4 rfl (st_loadD (vs := [_, _, _, _, _, _]) 0 6 rfl agg69 rfl rfl rfl) ?_
             refine E_out ?_
             refine D_all [5] (by kernel_rfl) rfl ?_
             refine R_do (Base.Le.refl _) rfl rfl (u_callW0 _ call66 rfl (fun w ho => ih _ [] x287 s2 A3 c4 (h5.old ho) x297 hcl298) (fun _ _ _ h => h.2.symm)) ?_ ?_
             ·
              rintro _ _ ⟨⟨_, rfl, _⟩, rfl⟩
              refine ⟨.inr (.refl _), ?_⟩
              refine E_in (.refl _) ?_
              refine E_st 6 rfl (st_not rfl) ?_
              refine E_st 7 rfl (st_assign rfl) ?_
              refine E_out ?_
              refine D_done (by kernel_rfl) ?_
              refine x_then_normal ?_
              refine c_ret ?_
              refine x_block_ret ?_
              refine x_then_ret ?_
              obtain rfl := some1 hm
              exact retM (rs := [.tmp 4]) [.bool (!x297)] (Base.Le.refl _) (by decide) rfl ⟨rfl, trivial⟩ rfl (.cons _ (.cons _ (.refl _))) ⟨rfl, rfl⟩
             exact R_nil
            ·
             rw [if_neg (of_decide_eq_false hc274)] at hm
             refine c_sr ?_
             refine t_st rfl (st_eql rfl rfl) ?_
             refine t_as rfl rfl ?_
             refine t_ne ?_
             refine c_cond _ rfl (fun hc299 => ?_) (fun hc299 => ?_)
             ·
              rw [if_pos (of_decide_eq_true hc299)] at hm
              refine c_sr ?_
              refine t_st rfl (st_field rfl fld63_3) ?_
              refine t_st rfl (st_load 1 rfl one61 rfl rfl) ?_
              refine t_st rfl (st_func _ _ rfl rfl) ?_
              obtain ⟨x300, hcl301, hm⟩ := bindS hm
              refine t_callG _ rfl call86 rfl (cSlicesContainsFunc (mFareCondHolds N) ih _ _ [] s2.Day s2.At s2.Km s2.Age s2.Card s2.Zones g205 none 0 A3 c4 FZ.nil h5 x300 hcl301) ?_
              rintro _ b302 _ hle303 ⟨rfl, rfl⟩
              refine t_st rfl (st_not rfl) ?_
              refine t_as rfl rfl ?_
              refine t_ne ?_
              refine c_ret ?_
              refine x_block_ret ?_
              refine x_then_ret ?_
              obtain rfl := some1 hm
              exact retM (rs := [.tmp 4]) [.bool (!x300)] hle303 (by decide) rfl ⟨rfl, trivial⟩ rfl (.cons _ (.cons _ (.refl _))) ⟨rfl, rfl⟩
             ·
              rw [if_neg (of_decide_eq_false hc299)] at hm
              refine c_sr ?_
              refine t_st rfl (st_eql rfl rfl) ?_
              refine t_as rfl rfl ?_
              refine t_ne ?_
              refine c_cond _ rfl (fun hc304 => ?_) (fun hc304 => ?_)
              ·
               rw [if_pos (of_decide_eq_true hc304)] at hm
               refine c_sr ?_
               refine t_st rfl (st_field rfl fld63_3) ?_
               refine t_st rfl (st_load 1 rfl one61 rfl rfl) ?_
               refine t_st rfl (st_func _ _ rfl rfl) ?_
               obtain ⟨x305, hcl306, hm⟩ := bindS hm
               refine t_callG _ rfl call86 rfl (cSlicesContainsFunc_2 (mFareCondHolds N) ih _ _ [] s2.Day s2.At s2.Km s2.Age s2.Card s2.Zones g205 none 0 A3 c4 FZ.nil h5 x305 hcl306) ?_
               rintro _ b307 _ hle308 ⟨rfl, rfl⟩
               refine t_as rfl rfl ?_
               refine t_ne ?_
               refine c_ret ?_
               refine x_block_ret ?_
               refine x_then_ret ?_
               obtain rfl := some1 hm
               exact retM (rs := [.tmp 4]) [.bool (x305)] hle308 (by decide) rfl ⟨rfl, trivial⟩ rfl (.cons _ (.cons _ (.refl _))) ⟨rfl, rfl⟩
              ·
               rw [if_neg (of_decide_eq_false hc304)] at hm
               refine c_skip ?_
               refine x_block_normal ?_
               refine x_then_normal ?_
               refine c_sr ?_
               refine t_as rfl rfl ?_
               refine t_ne ?_
               refine c_ret ?_
               obtain rfl := some1 hm
               exact retM (rs := [.tmp 4]) [.bool (true)] (Base.Le.refl _) (by decide) rfl ⟨rfl, trivial⟩ rfl (.cons _ (.cons _ (.refl _))) ⟨rfl, rfl⟩

set_option maxRecDepth 20000 in
theorem cFareRuleChange (b : Base) (R : Hp) (s1 : FareRule) (x2 : Int) (x14 : Int) (hm : mFareRuleChange s1 x2 = some x14) :
    CallsG Tryz.prog 67 [.agg #[.int .i64 (s1.If.Kind), .int .i64 (s1.If.A), .int .i64 (s1.If.B), .slice none 0 0, .int .i64 (s1.Do), .int .i64 (s1.N), .bool (s1.Stop)], .int .i64 (x2)] b (R) (fun v b' hp' => .int .i64 (x14) = v ∧ R = hp') := by
  refine fn_enterG 43 Tryz.func67 rfl Tryz.ntmps67 rfl ?_
  unfold mFareRuleChange at hm
  refine c_sr ?_
  refine t_do rfl (u_box _ rfl rfl) ?_
  rintro _ _ ⟨g15, rfl, rfl⟩
  refine t_as rfl rfl ?_
  refine t_ne ?_
  refine c_seq ?_
  refine c_sr ?_
  refine t_st rfl (st_field rfl fld65_1) ?_
  refine t_st rfl (st_load 0 rfl one3 rfl rfl) ?_
  refine t_ne ?_
  refine c_block ?_
  refine c_sr ?_
  refine t_st rfl (st_eql rfl rfl) ?_
  refine t_as rfl rfl ?_
  refine t_ne ?_
  refine c_cond _ rfl (fun hc16 => ?_) (fun hc16 => ?_)
  ·
   rw [if_pos (of_decide_eq_true hc16)] at hm
   refine c_sr ?_
   refine t_mv rfl rfl ?_
   refine t_st rfl (st_field rfl fld65_2) ?_
   refine t_st rfl (st_load 0 rfl one3 rfl rfl) ?_
   obtain ⟨_, h17, hm⟩ := bindS hm
   have h17 := (chk_some h17).2
   refine t_st rfl (st_mul rfl rfl h17) ?_
   obtain ⟨_, h18, hm⟩ := bindS hm
   obtain ⟨_, h19, hm⟩ := bindS hm
   have h19 := (chk_some h19).2
   refine t_st rfl (st_quo rfl rfl (ne0_some h18) h19) ?_
   refine t_st rfl (st_min rfl rfl) ?_
   refine t_as rfl rfl ?_
   refine t_ne ?_
   refine c_ret ?_
   refine x_block_ret ?_
   refine x_then_ret ?_
   obtain rfl := some1 hm
   exact retM (rs := [.tmp 4]) [.int .i64 (min 100000 (Int.tdiv (x2 * s1.N) 100))] (Base.Le.refl _) (by decide) rfl ⟨rfl, trivial⟩ rfl (.cons _ (.refl _)) ⟨rfl, rfl⟩
  ·
   rw [if_neg (of_decide_eq_false hc16)] at hm
   refine c_sr ?_
   refine t_st rfl (st_eql rfl rfl) ?_
   refine t_as rfl rfl ?_
   refine t_ne ?_
   refine c_cond _ rfl (fun hc20 => ?_) (fun hc20 => ?_)
   ·
    rw [if_pos (of_decide_eq_true hc20)] at hm
    refine c_sr ?_
    refine t_mv rfl rfl ?_
    refine t_st rfl (st_field rfl fld65_2) ?_
    refine t_st rfl (st_load 0 rfl one3 rfl rfl) ?_
    obtain ⟨_, h21, hm⟩ := bindS hm
    have h21 := (chk_some h21).2
    refine t_st rfl (st_sub rfl rfl h21) ?_
    refine t_st rfl (st_max rfl rfl) ?_
    refine t_as rfl rfl ?_
    refine t_ne ?_
    refine c_ret ?_
    refine x_block_ret ?_
    refine x_then_ret ?_
    obtain rfl := some1 hm
    exact retM (rs := [.tmp 4]) [.int .i64 (max 0 (x2 - s1.N))] (Base.Le.refl _) (by decide) rfl ⟨rfl, trivial⟩ rfl (.cons _ (.refl _)) ⟨rfl, rfl⟩
   ·
    rw [if_neg (of_decide_eq_false hc20)] at hm
    refine c_sr ?_
    refine t_st rfl (st_eql rfl rfl) ?_
    refine t_as rfl rfl ?_
    refine t_ne ?_
    refine c_cond _ rfl (fun hc22 => ?_) (fun hc22 => ?_)
    ·
     rw [if_pos (of_decide_eq_true hc22)] at hm
     refine c_sr ?_
     refine t_mv rfl rfl ?_
     refine t_st rfl (st_field rfl fld65_2) ?_
     refine t_st rfl (st_load 0 rfl one3 rfl rfl) ?_
     obtain ⟨_, h23, hm⟩ := bindS hm
     have h23 := (chk_some h23).2
     refine t_st rfl (st_add rfl rfl h23) ?_
     refine t_st rfl (st_min rfl rfl) ?_
     refine t_as rfl rfl ?_
     refine t_ne ?_
     refine c_ret ?_
     refine x_block_ret ?_
     refine x_then_ret ?_
     obtain rfl := some1 hm
     exact retM (rs := [.tmp 4]) [.int .i64 (min 100000 (x2 + s1.N))] (Base.Le.refl _) (by decide) rfl ⟨rfl, trivial⟩ rfl (.cons _ (.refl _)) ⟨rfl, rfl⟩
    ·
     rw [if_neg (of_decide_eq_false hc22)] at hm
     refine c_sr ?_
     refine t_st rfl (st_eql rfl rfl) ?_
     refine t_as rfl rfl ?_
     refine t_ne ?_
     refine c_cond _ rfl (fun hc24 => ?_) (fun hc24 => ?_)
     ·
      rw [if_pos (of_decide_eq_true hc24)] at hm
      refine c_sr ?_
      refine t_st rfl (st_field rfl fld65_2) ?_
      refine t_st rfl (st_load 0 rfl one3 rfl rfl) ?_
      refine t_as rfl rfl ?_
      refine t_ne ?_
      refine c_ret ?_
      refine x_block_ret ?_
      refine x_then_ret ?_
      obtain rfl := some1 hm
      exact retM (rs := [.tmp 4]) [.int .i64 (s1.N)] (Base.Le.refl _) (by decide) rfl ⟨rfl, trivial⟩ rfl (.cons _ (.refl _)) ⟨rfl, rfl⟩
     ·
      rw [if_neg (of_decide_eq_false hc24)] at hm
      refine c_sr ?_
      refine t_st rfl (st_eql rfl rfl) ?_
      refine t_as rfl rfl ?_
      refine t_ne ?_
      refine c_cond _ rfl (fun hc25 => ?_) (fun hc25 => ?_)
      ·
       rw [if_pos (of_decide_eq_true hc25)] at hm
       refine c_sr ?_
       refine t_mv rfl rfl ?_
       refine t_st rfl (st_field rfl fld65_2) ?_
       refine t_st rfl (st_load 0 rfl one3 rfl rfl) ?_
       refine t_st rfl (st_min rfl rfl) ?_
       refine t_as rfl rfl ?_
       refine t_ne ?_
       refine c_ret ?_
       refine x_block_ret ?_
       refine x_then_ret ?_
       obtain rfl := some1 hm
       exact retM (rs := [.tmp 4]) [.int .i64 (min x2 s1.N)] (Base.Le.refl _) (by decide) rfl ⟨rfl, trivial⟩ rfl (.cons _ (.refl _)) ⟨rfl, rfl⟩
      ·
       rw [if_neg (of_decide_eq_false hc25)] at hm
       refine c_skip ?_
       refine x_block_normal ?_
       refine x_then_normal ?_
       refine c_sr ?_
       refine t_mv rfl rfl ?_
       refine t_st rfl (st_field rfl fld65_2) ?_
       refine t_st rfl (st_load 0 rfl one3 rfl rfl) ?_
       refine t_st rfl (st_max rfl rfl) ?_
       refine t_as rfl rfl ?_
       refine t_ne ?_
       refine c_ret ?_
       obtain rfl := some1 hm
       exact retM (rs := [.tmp 4]) [.int .i64 (max x2 s1.N)] (Base.Le.refl _) (by decide) rfl ⟨rfl, trivial⟩ rfl (.cons _ (.refl _)) ⟨rfl, rfl⟩

set_option maxRecDepth 20000 in
theorem cFareTariffPrice (b : Base) (R : Hp) (s1 : FareTariff) (s8 : FareTrip) (A2 : Option Addr) (c3 : Nat) (A5 : Option Addr) (c6 : Nat) (A9 : Option Addr) (c10 : Nat) (h4 : FZ rFareBand b.w A2 c3 s1.Bands) (h7 : FZ rFareRule b.w A5 c6 s1.Rules) (h11 : FZ (RT.int .i64) b.w A9 c10 s8.Zones) (x256 : Int) (l257 : (List Int)) (hm : mFareTariffPrice s1 s8 = some (x256, l257)) :
    CallsG Tryz.prog 44 [.agg #[.bool (s1.ByKm), .slice A2 (s1.Bands).length c3, .int .i64 (s1.Round), .slice A5 (s1.Rules).length c6], .agg #[.int .i64 (s8.Day), .int .i64 (s8.At), .int .i64 (s8.Km), .int .i64 (s8.Age), .bool (s8.Card), .slice A9 (s8.Zones).length c10]] b (R) (fun v b' hp' => ∃ (A253 : Option Addr), ∃ (c254 : Nat), ∃ (hs252 : Hp), .tuple #[.int .i64 (x256), .slice A253 (l257).length c254] = v ∧ (hs252 ++ R) = hp' ∧ OS 3 (OT.fr (RT.int .i64)) b'.w (.slice A253 l257.length c254) l257 hs252) := by
  refine fn_enterG 70 Tryz.func44 rfl Tryz.ntmps44 rfl ?_
  unfold mFareTariffPrice at hm
  refine c_sr ?_
  refine t_do rfl (u_box _ rfl rfl) ?_
  rintro _ _ ⟨g258, rfl, rfl⟩
  refine t_do rfl (u_box _ rfl rfl) ?_
  rintro _ _ ⟨g259, rfl, rfl⟩
  refine t_as rfl rfl ?_
  refine t_as rfl rfl ?_
  refine t_ne ?_
  refine c_sr ?_
  refine t_st rfl (st_field rfl fld69_5) ?_
  refine t_st rfl (st_load 0 rfl one22 rfl rfl) ?_
  refine t_st rfl (st_len rfl sl22) ?_
  refine t_do rfl (u_alloc [.int .i64 0] zero3 rfl) ?_
  rintro _ _ ⟨g260, rfl, rfl⟩
  refine t_do rfl (u_store 0 rfl rfl siz3 rfl rfl (by simp)) ?_
  rintro _ _ rfl
  refine t_ne ?_
  obtain ⟨x264, hj265, hk265⟩ := bindS hm
  refine c_join (fun b262 e' hp' => [(2, .pointer (some ⟨g258, 0, none⟩)), (3, .pointer (some ⟨g259, 0, none⟩)), (6, .pointer (some ⟨g260, 0, none⟩))] = e' ∧ (g258, Cl 52 [.bool (s1.ByKm), .slice A2 (s1.Bands).length c3, .int .i64 (s1.Round), .slice A5 (s1.Rules).length c6]) :: (g259, Cl 69 [.int .i64 (s8.Day), .int .i64 (s8.At), .int .i64 (s8.Km), .int .i64 (s8.Age), .bool (s8.Card), .slice A9 (s8.Zones).length c10]) :: (g260, Cl 3 [.int .i64 (x264)]) :: R = hp' ∧ b.Le b262) ?_ ?_
  ·
   have hm := hj265
   refine c_sr ?_
   refine t_st rfl (st_field rfl fld52_0) ?_
   refine t_st rfl (st_load 2 rfl one4 rfl rfl) ?_
   refine t_ne ?_
   refine c_cond _ rfl (fun hc266 => ?_) (fun hc266 => ?_)
   ·
    rw [if_pos hc266] at hm
    refine c_region ?_
    refine t_st rfl (st_field rfl fld69_2) ?_
    refine t_st rfl (st_load 1 rfl one3 rfl rfl) ?_
    refine t_do rfl (u_store 0 rfl rfl siz3 rfl rfl (by simp)) ?_
    rintro _ _ rfl
    refine t_nil ?_
    obtain rfl := some1 hm
    refine x_pullb 1 rfl ?_
    refine x_pullb 2 rfl ?_
    exact x_join (e' := [(2, .pointer (some ⟨g258, 0, none⟩)), (3, .pointer (some ⟨g259, 0, none⟩)), (6, .pointer (some ⟨g260, 0, none⟩))]) ⟨rfl, rfl, rfl, trivial⟩ (.refl _) ⟨rfl, rfl, (Base.Le.refl _)⟩
   ·
    rw [if_neg (fun hh => Bool.noConfusion (hh.symm.trans hc266))] at hm
    refine c_skip ?_
    obtain rfl := some1 hm
    refine x_pullb 1 rfl ?_
    refine x_pullb 2 rfl ?_
    exact x_join (e' := [(2, .pointer (some ⟨g258, 0, none⟩)), (3, .pointer (some ⟨g259, 0, none⟩)), (6, .pointer (some ⟨g260, 0, none⟩))]) ⟨rfl, rfl, rfl, trivial⟩ (.refl _) ⟨rfl, rfl, (Base.Le.refl _)⟩
  ·
   rintro b262 _ _ ⟨rfl, rfl, hle263⟩
   have hm := hk265
   refine c_sr ?_
   refine t_st rfl (st_field rfl fld52_1) ?_
   refine t_st rfl (st_load 0 rfl one49 rfl rfl) ?_
   refine t_st rfl (st_func _ _ rfl rfl) ?_
   obtain ⟨x267, hcl268, hm⟩ := bindS hm
   refine t_pullb 2 rfl ?_
   refine t_callG _ rfl call64 rfl (cSlicesIndexFunc _ _ s1.Bands x264 g260 A2 c3 (h4.le hle263) x267 hcl268) ?_
   rintro _ b269 _ hle270 ⟨rfl, rfl⟩
   refine t_as rfl rfl ?_
   refine t_ne ?_
   obtain ⟨x275, hj276, hk276⟩ := bindS hm
   refine c_join (fun b273 e' hp' => [(2, .pointer (some ⟨g258, 0, none⟩)), (3, .pointer (some ⟨g259, 0, none⟩)), (7, .int .i64 (x275))] = e' ∧ (g258, Cl 52 [.bool (s1.ByKm), .slice A2 (s1.Bands).length c3, .int .i64 (s1.Round), .slice A5 (s1.Rules).length c6]) :: (g259, Cl 69 [.int .i64 (s8.Day), .int .i64 (s8.At), .int .i64 (s8.Km), .int .i64 (s8.Age), .bool (s8.Card), .slice A9 (s8.Zones).length c10]) :: R = hp' ∧ b269.Le b273) ?_ ?_
   ·
    have hm := hj276
    refine c_sr ?_
    refine t_mv rfl rfl ?_
    refine t_st rfl (st_lss rfl rfl) ?_
    refine t_ne ?_
    refine c_cond _ rfl (fun hc277 => ?_) (fun hc277 => ?_)
    ·
     rw [if_pos (of_decide_eq_true hc277)] at hm
     refine c_region ?_
     refine t_st rfl (st_field rfl fld52_1) ?_
     refine t_st rfl (st_load 1 rfl one49 rfl rfl) ?_
     refine t_st rfl (st_len rfl sl49) ?_
     obtain ⟨_, h278, hm⟩ := bindS hm
     have h278 := (chk_some h278).2
     refine t_st rfl (st_sub rfl rfl h278) ?_
     refine t_as rfl rfl ?_
     refine t_nil ?_
     obtain rfl := some1 hm
     refine x_pullb 2 rfl ?_
     refine x_pullb 2 rfl ?_
     exact x_join (e' := [(2, .pointer (some ⟨g258, 0, none⟩)), (3, .pointer (some ⟨g259, 0, none⟩)), (7, .int .i64 ((s1.Bands.length : Int) - 1))]) ⟨rfl, rfl, rfl, trivial⟩ (.cons_cons _ (.cons_cons _ (.cons _ (.refl _)))) ⟨rfl, rfl, (Base.Le.refl _)⟩
    ·
     rw [if_neg (of_decide_eq_false hc277)] at hm
     refine c_skip ?_
     obtain rfl := some1 hm
     refine x_pullb 2 rfl ?_
     refine x_pullb 2 rfl ?_
     exact x_join (e' := [(2, .pointer (some ⟨g258, 0, none⟩)), (3, .pointer (some ⟨g259, 0, none⟩)), (7, .int .i64 (x267))]) ⟨rfl, rfl, rfl, trivial⟩ (.cons_cons _ (.cons_cons _ (.cons _ (.refl _)))) ⟨rfl, rfl, (Base.Le.refl _)⟩
   ·
    rintro b273 _ _ ⟨rfl, rfl, hle274⟩
    have hm := hk276
    refine c_sr ?_
    refine t_st rfl (st_field rfl fld52_1) ?_
    refine t_st rfl (st_load 0 rfl one49 rfl rfl) ?_
    refine t_mv rfl rfl ?_
    obtain ⟨x279, h280, hm⟩ := bindS hm
    obtain ⟨j281, hj282, hx283⟩ := idx_some h280
    obtain ⟨cs284, hr285, hcs286, hA287, hlt288⟩ := FZ.get (sz := 2) rfl (by decide) (h4.le (hle263.trans (hle270.trans hle274))) hx283
    obtain ⟨_, _, rfl, rfl, rfl⟩ := hr285
    refine t_st rfl (st_index_old j281 rfl rfl hj282 hlt288 hA287 sl49) ?_
    refine t_st rfl (st_field_old rfl hA287 fld60_1) ?_
    refine t_st rfl (st_load_old rfl one3 (hcs286 1 _ rfl)) ?_
    refine t_as rfl rfl ?_
    refine t_ne ?_
    refine c_sr ?_
    refine t_as rfl rfl ?_
    refine t_ne ?_
    obtain ⟨⟨x390, l391⟩, hj392, hk392⟩ := bindS hm
    refine c_join (fun b383 e' hp' => ∃ (A387 : Option Addr), ∃ (c388 : Nat), ∃ (hs386 : Hp), [(2, .pointer (some ⟨g258, 0, none⟩)), (8, .int .i64 (x390)), (9, .slice A387 (l391).length c388)] = e' ∧ (g258, Cl 52 [.bool (s1.ByKm), .slice A2 (s1.Bands).length c3, .int .i64 (s1.Round), .slice A5 (s1.Rules).length c6]) :: (hs386 ++ R) = hp' ∧ b273.Le b383 ∧ OS 3 (OT.fr (RT.int .i64)) b383.w (.slice A387 l391.length c388) l391 hs386) ?_ ?_
    ·
     have hm := hj392
     refine c_sr ?_
     refine t_st rfl (st_field rfl fld52_3) ?_
     refine t_st rfl (st_load 0 rfl one50 rfl rfl) ?_
     refine t_st rfl (st_len rfl sl50) ?_
     refine t_mv rfl rfl ?_
     refine t_ne ?_
     refine c_block ?_
     have hb394 : s1.Rules.length ≤ 9223372036854775807 := (FZ.bd (h7.le (hle263.trans (hle270.trans hle274))))
     refine c_pullb 1 rfl ?_
     refine c_pullb 1 rfl ?_
     obtain ⟨t459, hl460, hk461⟩ := bindS hm
     refine c_forM (fun k458 => unc2 fun x456 l457 => fun b449 e' hp' => ∃ (A453 : Option Addr), ∃ (c454 : Nat), ∃ (hs452 : Hp), [(2, .pointer (some ⟨g258, 0, none⟩)), (3, .pointer (some ⟨g259, 0, none⟩)), (8, .int .i64 (x456)), (9, .slice A453 (l457).length c454), (36, .slice A5 (s1.Rules).length c6), (37, .int .i64 ((s1.Rules.length : Int))), (38, .int .i64 ((k458 : Int)))] = e' ∧ (g258, Cl 52 [.bool (s1.ByKm), .slice A2 (s1.Bands).length c3, .int .i64 (s1.Round), .slice A5 (s1.Rules).length c6]) :: (g259, Cl 69 [.int .i64 (s8.Day), .int .i64 (s8.At), .int .i64 (s8.Km), .int .i64 (s8.Age), .bool (s8.Card), .slice A9 (s8.Zones).length c10]) :: (hs452 ++ R) = hp' ∧ b273.Le b449 ∧ OS 3 (OT.fr (RT.int .i64)) b449.w (.slice A453 l457.length c454) l457 hs452) hl460 (e' := [(2, .pointer (some ⟨g258, 0, none⟩)), (3, .pointer (some ⟨g259, 0, none⟩)), (8, .int .i64 (x279.Price)), (9, .slice none 0 0), (36, .slice A5 (s1.Rules).length c6), (37, .int .i64 ((s1.Rules.length : Int))), (38, .int .i64 0)]) ⟨rfl, rfl, rfl, rfl, rfl, rfl, rfl, trivial⟩ (.refl _) ⟨none, 0, [], rfl, rfl, (Base.Le.refl _), OS.nil⟩ ?_ ?_
     ·
      rintro k458 ⟨x456, l457⟩ b449 _ _ oL393 hknL393 ⟨A453, c454, hs452, rfl, rfl, hle450, h455⟩ hstepL393 houtL393
      unfold mFareTariffPrice_L393 at hstepL393
      have hm := (unc2E hstepL393)
      refine c_sr ?_
      refine t_st rfl (st_lss_t rfl rfl (by omega)) ?_
      refine t_ne ?_
      refine c_seq ?_
      refine c_cond_t rfl ?_
      refine c_skip ?_
      refine x_then_normal ?_
      refine c_seq ?_
      refine c_block ?_
      refine c_sr ?_
      refine t_mv rfl rfl ?_
      obtain ⟨x462, h463, hm⟩ := bindS hm
      obtain ⟨j464, hj465, hx466⟩ := idx_some h463
      obtain ⟨cs467, hr468, hcs469, hA470, hlt471⟩ := FZ.get (sz := 7) rfl (by decide) (h7.le (hle263.trans (hle270.trans (hle274.trans hle450)))) hx466
      obtain ⟨_, _, rfl, ⟨_, _, rfl, rfl, ⟨_, _, rfl, rfl, ⟨_, _, rfl, rfl, rfl⟩⟩⟩, ⟨_, _, rfl, rfl, ⟨_, _, rfl, rfl, rfl⟩⟩⟩ := hr468
      refine t_st rfl (st_index_old j464 rfl rfl hj465 hlt471 hA470 sl50) ?_
      refine t_st rfl (st_loadN_old (vs := [.int .i64 (x462.If.Kind), .int .i64 (x462.If.A), .int .i64 (x462.If.B), .slice none 0 0, .int .i64 (x462.Do), .int .i64 (x462.N), .bool (x462.Stop)]) 7 rfl agg65 hA470 rfl (fun j u hu => hcs469 j u hu)) ?_
      refine t_do rfl (u_alloc [.int .i64 0, .int .i64 0, .int .i64 0, .slice none 0 0, .int .i64 0, .int .i64 0, .bool false] zero65 rfl) ?_
      rintro _ _ ⟨g472, rfl, rfl⟩
      refine t_as rfl rfl ?_
      refine t_do rfl (u_storeN (vs := [_, _, _, _, _, _, _]) 0 7 rfl rfl rfl siz65 rfl (mem_c rfl (mem_c rfl (mem_c rfl (mem_c rfl (mem_c rfl (mem_c rfl (mem_c rfl mem_n))))))) rfl (by simp)) ?_
      rintro _ _ rfl
      refine t_ne ?_
      refine c_seq ?_
      refine c_sr ?_
      refine t_st rfl (st_field rfl fld65_0) ?_
      refine t_st rfl (st_loadD (vs := [_, _, _, _]) 0 4 rfl agg63 rfl rfl rfl) ?_
      refine t_st rfl (st_loadD (vs := [_, _, _, _, _, _]) 2 6 rfl agg69 rfl rfl rfl) ?_
      obtain ⟨x473, hcl474, hm⟩ := bindS hm
      obtain ⟨Nhcl474, hcl474⟩ := lim_some hcl474
      refine t_do rfl (u_callW0 _ call66 rfl (fun w ho => cFareCondHolds Nhcl474 _ [] x462.If s8 A9 c10 ((h11.le (hle263.trans (hle270.trans (hle274.trans hle450)))).old ho) x473 hcl474) (fun _ _ _ h => h.2.symm)) ?_
      rintro _ _ ⟨⟨_, rfl, _⟩, rfl⟩
      refine t_st rfl (st_not rfl) ?_
      refine t_ne ?_
      refine c_cond _ rfl (fun hc475 => ?_) (fun hc475 => ?_)
      ·
       rw [if_neg (fun hh => Bool.noConfusion (hh.symm.trans (notT hc475)))] at hm
       refine c_exit ?_
       refine x_then_exit ?_
       refine x_block_out ?_
       refine x_then_normal ?_
       refine c_region ?_
       refine t_st rfl (st_add rfl rfl (by omega)) ?_
       refine t_mv rfl rfl ?_
       refine t_nil ?_
       refine x_pullb 2 rfl ?_
       refine x_pullb 2 rfl ?_
       exact x_againM (x456, l457) (Option.some.inj hm).symm (e' := [(2, .pointer (some ⟨g258, 0, none⟩)), (3, .pointer (some ⟨g259, 0, none⟩)), (8, .int .i64 (x456)), (9, .slice A453 (l457).length c454), (36, .slice A5 (s1.Rules).length c6), (37, .int .i64 ((s1.Rules.length : Int))), (38, .int .i64 ((k458 : Int) + 1))]) ⟨rfl, rfl, rfl, rfl, rfl, rfl, rfl, trivial⟩ (.cons_cons _ (.cons_cons _ (.cons _ (.refl _)))) ⟨A453, c454, hs452, rfl, rfl, (hle450), h455⟩
      ·
       rw [if_pos (notF hc475)] at hm
       refine c_skip ?_
       refine x_then_normal ?_
       refine c_sr ?_
       refine t_mv rfl rfl ?_
       refine t_mv rfl rfl ?_
       refine t_do rfl (u_bslice (el := 3) [(0, .int .i64 ((k458 : Int)))] [.int .i64 ((k458 : Int))] rfl (fun _ => by kernel_rfl)) ?_
       rintro _ _ ⟨g476, rfl, rfl⟩
       obtain ⟨_, h477, hm⟩ := bindS hm
       have h477 := room_some h477
       refine t_do rfl (u_appOS (r := (RT.int .i64)) (l := l457) [_, _, _, _] R [[.int .i64 ((k458 : Int))]] [(k458 : Int)] rfl (by decide) sl22 inf3 rfl rfl rfl rfl h455 rfl (fun w ho => Rd.own (i := 0) ho rfl) ⟨rfl, trivial⟩ h477) ?_
       rintro _ _ ⟨hs478, rfl, h479⟩
       obtain ⟨A480, c481, rfl, _⟩ := h479.form
       refine t_as rfl rfl ?_
       refine t_ne ?_
       refine c_sr ?_
       refine t_st rfl (st_loadD (vs := [_, _, _, _, _, _, _]) 1 7 rfl agg65 rfl rfl rfl) ?_
       refine t_mv rfl rfl ?_
       obtain ⟨x482, hcl483, hm⟩ := bindS hm
       refine t_do rfl (u_callW0 _ call67 rfl (fun w ho => cFareRuleChange _ [] x462 x456 x482 hcl483) (fun _ _ _ h => h.2.symm)) ?_
       rintro _ _ ⟨⟨_, rfl, _⟩, rfl⟩
       refine t_as rfl rfl ?_
       refine t_ne ?_
       refine c_sr ?_
       refine t_st rfl (st_field rfl fld65_3) ?_
       refine t_st rfl (st_load 1 rfl one4 rfl rfl) ?_
       refine t_ne ?_
       refine c_cond _ rfl (fun hc484 => ?_) (fun hc484 => ?_)
       ·
        rw [if_pos hc484] at hm
        refine c_exit ?_
        refine x_block_on rfl ?_
        refine x_then_exit ?_
        refine x_then_exit ?_
        refine x_block_out ?_
        have hq485 := houtL393 _ (Option.some.inj hm).symm
        rw [hq485] at hk461
        have hm := elimR hk461
        obtain ⟨rfl, rfl⟩ := some2 hm
        refine x_pullb 2 rfl ?_
        exact x_join (e' := [(2, .pointer (some ⟨g258, 0, none⟩)), (8, .int .i64 (x482)), (9, .slice A480 (l457 ++ [(k458 : Int)]).length c481)]) ⟨rfl, rfl, rfl, trivial⟩ (.cons_cons _ (.cons _ (.cons _ (.cons _ (.refl _))))) ⟨A480, c481, hs478, rfl, rfl, hle450, h479⟩
       ·
        rw [if_neg (fun hh => Bool.noConfusion (hh.symm.trans hc484))] at hm
        refine c_skip ?_
        refine x_block_normal ?_
        refine x_then_normal ?_
        refine c_region ?_
        refine t_st rfl (st_add rfl rfl (by omega)) ?_
        refine t_mv rfl rfl ?_
        refine t_nil ?_
        refine x_pullb 3 rfl ?_
        refine x_pullb 3 rfl ?_
        exact x_againM (x482, l457 ++ [(k458 : Int)]) (Option.some.inj hm).symm (e' := [(2, .pointer (some ⟨g258, 0, none⟩)), (3, .pointer (some ⟨g259, 0, none⟩)), (8, .int .i64 (x482)), (9, .slice A480 (l457 ++ [(k458 : Int)]).length c481), (36, .slice A5 (s1.Rules).length c6), (37, .int .i64 ((s1.Rules.length : Int))), (38, .int .i64 ((k458 : Int) + 1))]) ⟨rfl, rfl, rfl, rfl, rfl, rfl, rfl, trivial⟩ (.cons_cons _ (.cons_cons _ (.cons _ (.cons _ (.refl _))))) ⟨A480, c481, hs478, rfl, rfl, (hle450), h479⟩
     ·
      rintro ⟨x456, l457⟩ b449 _ _ ⟨A453, c454, hs452, rfl, rfl, hle450, h455⟩ hq486
      rw [hq486] at hk461
      have hm := elimL hk461
      have hm := (unc2E hm)
      refine c_sr ?_
      refine t_st rfl (st_lss_f rfl rfl (by omega)) ?_
      refine t_ne ?_
      refine c_seq ?_
      refine c_cond_f rfl ?_
      refine c_exit ?_
      refine x_then_exit ?_
      refine x_then_exit ?_
      refine x_block_out ?_
      obtain ⟨rfl, rfl⟩ := some2 hm
      exact x_join (e' := [(2, .pointer (some ⟨g258, 0, none⟩)), (8, .int .i64 (x456)), (9, .slice A453 (l457).length c454)]) ⟨rfl, rfl, rfl, trivial⟩ (.cons_cons _ (.cons _ (.refl _))) ⟨A453, c454, hs452, rfl, rfl, hle450, h455⟩
    ·
     rintro b383 _ _ ⟨A387, c388, hs386, rfl, rfl, hle384, h389⟩
     have hm := (unc2E hk392)
     refine c_seq ?_
     obtain ⟨_, h492, hm⟩ := bindS hm
     obtain ⟨_, h493, hm⟩ := bindS hm
     obtain ⟨_, h494, hm⟩ := bindS hm
     obtain ⟨_, h495, hm⟩ := bindS hm
     obtain ⟨_, h496, hm⟩ := bindS hm
     refine D_drawI mixed (.refl _) ?_
     refine E_st 0 rfl (st_move rfl) ?_
     refine E_st 1 rfl (st_field rfl fld52_2) ?_
     refine E_st 2 rfl (st_load 0 rfl one3 rfl rfl) ?_
     have h492 := (chk_some h492).2
     refine E_st 3 rfl (st_add rfl rfl h492) ?_
     have h493 := (chk_some h493).2
     refine E_st 4 rfl (st_sub rfl rfl h493) ?_
     refine E_st 5 rfl (st_field rfl fld52_2) ?_
     refine E_st 6 rfl (st_load 0 rfl one3 rfl rfl) ?_
     have h495 := (chk_some h495).2
     refine E_st 7 rfl (st_quo rfl rfl (ne0_some h494) h495) ?_
     refine E_st 8 rfl (st_field rfl fld52_2) ?_
     refine E_st 9 rfl (st_load 0 rfl one3 rfl rfl) ?_
     have h496 := (chk_some h496).2
     refine E_st 10 rfl (st_mul rfl rfl h496) ?_
     refine E_st 11 rfl (st_move rfl) ?_
     refine E_st 12 rfl (st_assign rfl) ?_
     refine E_st 13 rfl (st_assign rfl) ?_
     refine E_out ?_
     refine D_done (by kernel_rfl) ?_
     refine x_then_normal ?_
     refine c_ret ?_
     obtain ⟨rfl, rfl⟩ := some2 hm
     exact retM (rs := [.tmp 4, .tmp 5]) [.int .i64 ((Int.tdiv ((x390 + s1.Round) - 1) s1.Round) * s1.Round), .slice A387 (l391).length c388] (hle263.trans (hle270.trans (hle274.trans hle384))) (by decide) rfl ⟨rfl, ⟨rfl, trivial⟩⟩ rfl (.cons _ (.refl _)) ⟨A387, c388, hs386, rfl, rfl, h389⟩

set_option maxRecDepth 20000 in
theorem cFarePrice (b : Base) (R : Hp) (s1 : FareTariff) (s8 : FareTrip) (A2 : Option Addr) (c3 : Nat) (A5 : Option Addr) (c6 : Nat) (A9 : Option Addr) (c10 : Nat) (h4 : FZ rFareBand b.w A2 c3 s1.Bands) (h7 : FZ rFareRule b.w A5 c6 s1.Rules) (h11 : FZ (RT.int .i64) b.w A9 c10 s8.Zones) (x34 : Int) (x35 : Int) (l36 : (List Int)) (hm : mFarePrice s1 s8 = some (x34, x35, l36)) :
    CallsG Tryz.prog 22 [.agg #[.bool (s1.ByKm), .slice A2 (s1.Bands).length c3, .int .i64 (s1.Round), .slice A5 (s1.Rules).length c6], .agg #[.int .i64 (s8.Day), .int .i64 (s8.At), .int .i64 (s8.Km), .int .i64 (s8.Age), .bool (s8.Card), .slice A9 (s8.Zones).length c10]] b (R) (fun v b' hp' => ∃ (A31 : Option Addr), ∃ (c32 : Nat), ∃ (hs30 : Hp), .tuple #[.int .i64 (x34), .slice A31 (l36).length c32, .int .i64 (x35)] = v ∧ (hs30 ++ R) = hp' ∧ OS 3 (OT.fr (RT.int .i64)) b'.w (.slice A31 l36.length c32) l36 hs30) := by
  refine fn_enterG 29 Tryz.func22 rfl Tryz.ntmps22 rfl ?_
  unfold mFarePrice at hm
  refine c_sr ?_
  refine t_do rfl (u_box _ rfl rfl) ?_
  rintro _ _ ⟨g37, rfl, rfl⟩
  refine t_do rfl (u_box _ rfl rfl) ?_
  rintro _ _ ⟨g38, rfl, rfl⟩
  refine t_as rfl rfl ?_
  refine t_as rfl rfl ?_
  refine t_as rfl rfl ?_
  refine t_ne ?_
  refine c_seq ?_
  refine c_sr ?_
  refine t_st rfl (st_loadD (vs := [_, _, _, _]) 1 4 rfl agg52 rfl rfl rfl) ?_
  obtain ⟨x39, hcl40, hm⟩ := bindS hm
  refine t_do rfl (u_callW0 _ call42 rfl (fun w ho => cFareCheckTariff _ [] s1 A2 c3 A5 c6 (h4.old ho) (h7.old ho) x39 hcl40) (fun _ _ _ h => h.2.symm)) ?_
  rintro _ _ ⟨⟨_, rfl, _⟩, rfl⟩
  refine t_as rfl rfl ?_
  refine t_ne ?_
  refine c_sr ?_
  refine t_mv rfl rfl ?_
  refine t_st rfl (st_neq rfl rfl) ?_
  refine t_ne ?_
  refine c_cond _ rfl (fun hc41 => ?_) (fun hc41 => ?_)
  ·
   rw [if_pos (of_decide_eq_true hc41)] at hm
   refine c_sr ?_
   refine t_mv rfl rfl ?_
   refine t_as rfl rfl ?_
   refine t_as rfl rfl ?_
   refine t_as rfl rfl ?_
   refine t_ne ?_
   refine c_ret ?_
   refine x_then_ret ?_
   obtain ⟨rfl, rfl, rfl⟩ := some3 hm
   exact retM (rs := [.tmp 4, .tmp 5, .tmp 6]) [.int .i64 (0), .slice none 0 0, .int .i64 (x39)] (Base.Le.refl _) (by decide) rfl ⟨rfl, ⟨rfl, ⟨rfl, trivial⟩⟩⟩ rfl (.cons _ (.cons _ (.refl _))) ⟨none, 0, [], rfl, rfl, OS.nil⟩
  ·
   rw [if_neg (of_decide_eq_false hc41)] at hm
   refine c_skip ?_
   refine x_then_normal ?_
   refine c_seq ?_
   refine c_sr ?_
   refine t_st rfl (st_loadD (vs := [_, _, _, _, _, _]) 0 6 rfl agg69 rfl rfl rfl) ?_
   obtain ⟨x42, hcl43, hm⟩ := bindS hm
   refine t_do rfl (u_callW0 _ call43 rfl (fun w ho => cFareCheckTrip _ [] s8 A9 c10 (h11.old ho) x42 hcl43) (fun _ _ _ h => h.2.symm)) ?_
   rintro _ _ ⟨⟨_, rfl, _⟩, rfl⟩
   refine t_as rfl rfl ?_
   refine t_ne ?_
   refine c_sr ?_
   refine t_mv rfl rfl ?_
   refine t_st rfl (st_neq rfl rfl) ?_
   refine t_ne ?_
   refine c_cond _ rfl (fun hc44 => ?_) (fun hc44 => ?_)
   ·
    rw [if_pos (of_decide_eq_true hc44)] at hm
    refine c_sr ?_
    refine t_mv rfl rfl ?_
    refine t_as rfl rfl ?_
    refine t_as rfl rfl ?_
    refine t_as rfl rfl ?_
    refine t_ne ?_
    refine c_ret ?_
    refine x_then_ret ?_
    obtain ⟨rfl, rfl, rfl⟩ := some3 hm
    exact retM (rs := [.tmp 4, .tmp 5, .tmp 6]) [.int .i64 (0), .slice none 0 0, .int .i64 (x42)] (Base.Le.refl _) (by decide) rfl ⟨rfl, ⟨rfl, ⟨rfl, trivial⟩⟩⟩ rfl (.cons _ (.cons _ (.refl _))) ⟨none, 0, [], rfl, rfl, OS.nil⟩
   ·
    rw [if_neg (of_decide_eq_false hc44)] at hm
    refine c_skip ?_
    refine x_then_normal ?_
    refine c_sr ?_
    refine t_st rfl (st_loadD (vs := [_, _, _, _]) 1 4 rfl agg52 rfl rfl rfl) ?_
    refine t_st rfl (st_loadD (vs := [_, _, _, _, _, _]) 0 6 rfl agg69 rfl rfl rfl) ?_
    obtain ⟨⟨x45, l46⟩, hcl47, hm⟩ := bindS hm
    have hm := (unc2E hm)
    refine t_callG _ rfl call44 rfl (cFareTariffPrice _ _ s1 s8 A2 c3 A5 c6 A9 c10 h4 h7 h11 x45 l46 hcl47) ?_
    rintro _ b48 _ hle49 ⟨A50, c51, hs52, rfl, rfl, h53⟩
    refine t_in1 [] [_, _] hs52 R rfl ?_
    refine t_mv rfl rfl ?_
    refine t_st rfl (st_extract rfl rfl) ?_
    refine t_st rfl (st_extract rfl rfl) ?_
    refine t_as rfl rfl ?_
    refine t_as rfl rfl ?_
    refine t_ne ?_
    refine c_sr ?_
    refine t_mv rfl rfl ?_
    refine t_mv rfl rfl ?_
    refine t_as rfl rfl ?_
    refine t_as rfl rfl ?_
    refine t_as rfl rfl ?_
    refine t_ne ?_
    refine c_ret ?_
    obtain ⟨rfl, rfl, rfl⟩ := some3 hm
    exact retM (rs := [.tmp 4, .tmp 5, .tmp 6]) [.int .i64 (x45), .slice A50 (l46).length c51, .int .i64 (0)] hle49 (by decide) rfl ⟨rfl, ⟨rfl, ⟨rfl, trivial⟩⟩⟩ rfl (.cons _ (.cons _ (.refl _))) ⟨A50, c51, hs52, rfl, rfl, h53⟩

set_option maxRecDepth 20000 in
theorem cFishkeep2Fares (b : Base) (R : Hp) (x27 : Bool) (hm : mFishkeep2Fares = some x27) :
    CallsG Tryz.prog 8 [] b (R) (fun v b' hp' => .bool (x27) = v ∧ R = hp') := by
  refine fn_enterG 25 Tryz.func8 rfl Tryz.ntmps8 rfl ?_
  unfold mFishkeep2Fares at hm
  refine c_sr ?_
  refine t_as rfl rfl ?_
  refine t_ne ?_
  refine c_sr ?_
  refine t_st rfl (st_build (v := .agg #[.int .i64 (3), .int .i64 (500)]) [(0, .int .i64 (3)), (1, .int .i64 (500))] rfl (fun _ => by kernel_rfl)) ?_
  refine t_do rfl (u_bslice (el := 60) [(0, .agg #[.int .i64 (3), .int .i64 (500)])] [.int .i64 (3), .int .i64 (500)] rfl (fun _ => by kernel_rfl)) ?_
  rintro _ _ ⟨g28, rfl, rfl⟩
  refine t_st rfl (st_build (v := .agg #[.int .i64 (1), .int .i64 (0), .int .i64 (0), .slice none 0 0]) [(0, .int .i64 (1))] rfl (fun _ => by kernel_rfl)) ?_
  refine t_st rfl (st_build (v := .agg #[.int .i64 (1), .int .i64 (0), .int .i64 (0), .slice none 0 0, .int .i64 (2), .int .i64 (7), .bool (false)]) [(0, .agg #[.int .i64 (1), .int .i64 (0), .int .i64 (0), .slice none 0 0]), (1, .int .i64 (2)), (2, .int .i64 (7))] rfl (fun _ => by kernel_rfl)) ?_
  refine t_do rfl (u_bslice (el := 65) [(0, .agg #[.int .i64 (1), .int .i64 (0), .int .i64 (0), .slice none 0 0, .int .i64 (2), .int .i64 (7), .bool (false)])] [.int .i64 (1), .int .i64 (0), .int .i64 (0), .slice none 0 0, .int .i64 (2), .int .i64 (7), .bool (false)] rfl (fun _ => by kernel_rfl)) ?_
  rintro _ _ ⟨g29, rfl, rfl⟩
  refine t_st rfl (st_build (v := .agg #[.bool (false), .slice (some ⟨g28, 0, none⟩) 1 1, .int .i64 (1), .slice (some ⟨g29, 0, none⟩) 1 1]) [(1, .slice (some ⟨g28, 0, none⟩) 1 1), (2, .int .i64 (1)), (3, .slice (some ⟨g29, 0, none⟩) 1 1)] rfl (fun _ => by kernel_rfl)) ?_
  refine t_do rfl (u_alloc [.bool false, .slice none 0 0, .int .i64 0, .slice none 0 0] zero52 rfl) ?_
  rintro _ _ ⟨g30, rfl, rfl⟩
  refine t_seg 2 [_, _] R rfl rfl ?_
  have h32 : OS 60 (OT.fr rFareBand) b.w (.slice (some ⟨g28, 0, none⟩) 1 1) [(⟨3, 500⟩ : FareBand)] [(g28, Cl 60 [.int .i64 (3), .int .i64 (500)])] := OS.lit [[.int .i64 (3), .int .i64 (500)]] rfl ⟨⟨[.int .i64 (3)], _, rfl, rfl, rfl⟩, trivial⟩ rfl (by decide)
  refine t_seg 1 [_] ([(g28, Cl 60 [.int .i64 (3), .int .i64 (500)])] ++ R) rfl rfl ?_
  have h34 : OS 65 (OT.fr rFareRule) b.w (.slice (some ⟨g29, 0, none⟩) 1 1) [(⟨(⟨1, 0, 0, ()⟩ : FareCond), 2, 7, false⟩ : FareRule)] [(g29, Cl 65 [.int .i64 (1), .int .i64 (0), .int .i64 (0), .slice none 0 0, .int .i64 (2), .int .i64 (7), .bool (false)])] := OS.lit [[.int .i64 (1), .int .i64 (0), .int .i64 (0), .slice none 0 0, .int .i64 (2), .int .i64 (7), .bool (false)]] rfl ⟨⟨[.int .i64 (1), .int .i64 (0), .int .i64 (0), .slice none 0 0], _, rfl, ⟨[.int .i64 (1)], _, rfl, rfl, ⟨[.int .i64 (0)], _, rfl, rfl, ⟨[.int .i64 (0)], _, rfl, rfl, rfl⟩⟩⟩, ⟨[.int .i64 (2)], _, rfl, rfl, ⟨[.int .i64 (7)], _, rfl, rfl, rfl⟩⟩⟩, trivial⟩ rfl (by decide)
  refine t_do rfl (u_storeN (vs := [_, _, _, _]) 0 4 rfl rfl rfl siz52 rfl (mem_c rfl (mem_c rfl (mem_c rfl (mem_c rfl mem_n)))) rfl (by simp)) ?_
  rintro _ _ rfl
  refine t_ne ?_
  refine c_sr ?_
  refine t_st rfl (st_loadD (vs := [_, _, _, _]) 0 4 rfl agg52 rfl rfl rfl) ?_
  refine t_do rfl (u_bslice (el := 3) [(0, .int .i64 (1))] [.int .i64 (1)] rfl (fun _ => by kernel_rfl)) ?_
  rintro _ _ ⟨g35, rfl, rfl⟩
  refine t_st rfl (st_build (v := .agg #[.int .i64 (0), .int .i64 (0), .int .i64 (0), .int .i64 (0), .bool (true), .slice (some ⟨g35, 0, none⟩) 1 1]) [(4, .bool (true)), (5, .slice (some ⟨g35, 0, none⟩) 1 1)] rfl (fun _ => by kernel_rfl)) ?_
  refine t_seg 0 [_] ([(g29, Cl 65 [.int .i64 (1), .int .i64 (0), .int .i64 (0), .slice none 0 0, .int .i64 (2), .int .i64 (7), .bool (false)])] ++ ([(g28, Cl 60 [.int .i64 (3), .int .i64 (500)])] ++ R)) rfl rfl ?_
  have h37 : OS 3 (OT.fr (RT.int .i64)) b.w (.slice (some ⟨g35, 0, none⟩) 1 1) [1] [(g35, Cl 3 [.int .i64 (1)])] := OS.lit [[.int .i64 (1)]] rfl ⟨rfl, trivial⟩ rfl (by decide)
  obtain ⟨⟨x38, x39, l40⟩, hcl41, hm⟩ := bindS hm
  have hm := (unc3E hm)
  refine t_do rfl (u_callWF [_] ([(g35, Cl 3 [.int .i64 (1)])] ++ ([(g29, Cl 65 [.int .i64 (1), .int .i64 (0), .int .i64 (0), .slice none 0 0, .int .i64 (2), .int .i64 (7), .bool (false)])] ++ ([(g28, Cl 60 [.int .i64 (3), .int .i64 (500)])] ++ R))) _ rfl call22 rfl (fun w ho => cFarePrice _ [] (⟨false, [(⟨3, 500⟩ : FareBand)], 1, [(⟨(⟨1, 0, 0, ()⟩ : FareCond), 2, 7, false⟩ : FareRule)]⟩ : FareTariff) (⟨0, 0, 0, 0, true, [1]⟩ : FareTrip) (some ⟨g28, 0, none⟩) 1 (some ⟨g29, 0, none⟩) 1 (some ⟨g35, 0, none⟩) 1 (OS.now (o := (OT.fr rFareBand)) (l := [(⟨3, 500⟩ : FareBand)]) (hs := [(g28, Cl 60 [.int .i64 (3), .int .i64 (500)])]) h32 ho (.cons _ (sub_skip [(g35, Cl 3 [.int .i64 (1)])] (sub_skip [(g29, Cl 65 [.int .i64 (1), .int .i64 (0), .int .i64 (0), .slice none 0 0, .int .i64 (2), .int .i64 (7), .bool (false)])] (List.sublist_append_left _ _))))) (OS.now (o := (OT.fr rFareRule)) (l := [(⟨(⟨1, 0, 0, ()⟩ : FareCond), 2, 7, false⟩ : FareRule)]) (hs := [(g29, Cl 65 [.int .i64 (1), .int .i64 (0), .int .i64 (0), .slice none 0 0, .int .i64 (2), .int .i64 (7), .bool (false)])]) h34 ho (.cons _ (sub_skip [(g35, Cl 3 [.int .i64 (1)])] (List.sublist_append_left _ _)))) (OS.now (o := (OT.fr (RT.int .i64))) (l := [1]) (hs := [(g35, Cl 3 [.int .i64 (1)])]) h37 ho (.cons _ (List.sublist_append_left _ _))) x38 x39 l40 hcl41)) ?_
  rintro _ _ ⟨_, _, rfl, A42, c43, hs44, rfl, hq47, h45⟩
  obtain rfl := List.append_cancel_right hq47
  have h46 := flat_fz (w' := b.w) (fun _ _ _ _ h => h) h45
  refine t_mv rfl rfl ?_
  refine t_st rfl (st_extract rfl rfl) ?_
  refine t_st rfl (st_extract rfl rfl) ?_
  refine t_st rfl (st_extract rfl rfl) ?_
  refine t_as rfl rfl ?_
  refine t_as rfl rfl ?_
  refine t_as rfl rfl ?_
  refine t_ne ?_
  obtain ⟨x51, hj52, hk52⟩ := bindS hm
  refine c_join (fun b49 e' hp' => [(0, .bool (x51))] = e' ∧ R = hp' ∧ b.Le b49) ?_ ?_
  ·
   have hm := hj52
   refine c_region ?_
   refine t_mv rfl rfl ?_
   refine t_bool rfl (st_eql rfl rfl) (fun hc53 => ?_) (fun hc53 => ?_)
   ·
    rw [if_pos hc53] at hm
    refine t_mv rfl rfl ?_
    refine t_yes 21 rfl rfl rfl ?_
    refine t_mv rfl rfl ?_
    refine t_yes 21 rfl rfl rfl ?_
    refine t_st rfl (st_eql rfl rfl) ?_
    refine t_st rfl (st_pick_t rfl rfl) ?_
    refine t_as rfl rfl ?_
    refine t_nil ?_
    obtain rfl := some1 hm
    exact x_join (e' := [(0, .bool (decide (x38 = 493)))]) ⟨rfl, trivial⟩ (.cons _ (sub_skip hs44 (sub_skip [(g35, Cl 3 [.int .i64 (1)])] (sub_skip [(g29, Cl 65 [.int .i64 (1), .int .i64 (0), .int .i64 (0), .slice none 0 0, .int .i64 (2), .int .i64 (7), .bool (false)])] (sub_skip [(g28, Cl 60 [.int .i64 (3), .int .i64 (500)])] (.refl _)))))) ⟨rfl, rfl, (Base.Le.refl _)⟩
   ·
    rw [if_neg hc53] at hm
    refine t_mv rfl rfl ?_
    refine t_no 21 rfl rfl rfl rfl rfl ?_
    refine t_no 21 rfl rfl rfl rfl rfl ?_
    refine t_st rfl (st_pick_f rfl rfl) ?_
    refine t_as rfl rfl ?_
    refine t_nil ?_
    obtain rfl := some1 hm
    exact x_join (e' := [(0, .bool (false))]) ⟨rfl, trivial⟩ (.cons _ (sub_skip hs44 (sub_skip [(g35, Cl 3 [.int .i64 (1)])] (sub_skip [(g29, Cl 65 [.int .i64 (1), .int .i64 (0), .int .i64 (0), .slice none 0 0, .int .i64 (2), .int .i64 (7), .bool (false)])] (sub_skip [(g28, Cl 60 [.int .i64 (3), .int .i64 (500)])] (.refl _)))))) ⟨rfl, rfl, (Base.Le.refl _)⟩
  ·
   rintro b49 _ _ ⟨rfl, rfl, hle50⟩
   have hm := hk52
   refine c_ret ?_
   obtain rfl := some1 hm
   exact retM (rs := [.tmp 0]) [.bool (x51)] hle50 (by decide) rfl ⟨rfl, trivial⟩ rfl (.refl _) ⟨rfl, rfl⟩

set_option maxRecDepth 20000 in
theorem cFishref2Within (b : Base) (R : Hp) (x1 : Int) (x2 : Int) (x3 : Int) (x10 : Bool) (hm : mFishref2Within x1 x2 x3 = some x10) :
    CallsG Tryz.prog 27 [.int .i64 (x1), .int .i64 (x2), .int .i64 (x3)] b (R) (fun v b' hp' => .bool (x10) = v ∧ R = hp') := by
  refine fn_enterG 15 Tryz.func27 rfl Tryz.ntmps27 rfl ?_
  unfold mFishref2Within at hm
  refine c_sr ?_
  refine t_as rfl rfl ?_
  refine t_ne ?_
  obtain ⟨x14, hj15, hk15⟩ := bindS hm
  refine c_join (fun b12 e' hp' => [(6, .bool (x14))] = e' ∧ R = hp' ∧ b.Le b12) ?_ ?_
  ·
   have hm := hj15
   refine c_region ?_
   refine t_mv rfl rfl ?_
   refine t_mv rfl rfl ?_
   refine t_bool rfl (st_geq rfl rfl) (fun hc16 => ?_) (fun hc16 => ?_)
   ·
    rw [if_pos hc16] at hm
    refine t_mv rfl rfl ?_
    refine t_yes 10 rfl rfl rfl ?_
    refine t_mv rfl rfl ?_
    refine t_yes 10 rfl rfl rfl ?_
    refine t_mv rfl rfl ?_
    refine t_yes 10 rfl rfl rfl ?_
    refine t_st rfl (st_leq rfl rfl) ?_
    refine t_st rfl (st_pick_t rfl rfl) ?_
    refine t_as rfl rfl ?_
    refine t_nil ?_
    obtain rfl := some1 hm
    exact x_join (e' := [(6, .bool (decide (x1 ≤ x3)))]) ⟨rfl, trivial⟩ (.refl _) ⟨rfl, rfl, (Base.Le.refl _)⟩
   ·
    rw [if_neg hc16] at hm
    refine t_mv rfl rfl ?_
    refine t_no 10 rfl rfl rfl rfl rfl ?_
    refine t_no 10 rfl rfl rfl rfl rfl ?_
    refine t_no 10 rfl rfl rfl rfl rfl ?_
    refine t_st rfl (st_pick_f rfl rfl) ?_
    refine t_as rfl rfl ?_
    refine t_nil ?_
    obtain rfl := some1 hm
    exact x_join (e' := [(6, .bool (false))]) ⟨rfl, trivial⟩ (.refl _) ⟨rfl, rfl, (Base.Le.refl _)⟩
  ·
   rintro b12 _ _ ⟨rfl, rfl, hle13⟩
   have hm := hk15
   refine c_ret ?_
   obtain rfl := some1 hm
   exact retM (rs := [.tmp 6]) [.bool (x14)] hle13 (by decide) rfl ⟨rfl, trivial⟩ rfl (.refl _) ⟨rfl, rfl⟩

set_option maxRecDepth 20000 in
theorem cBitsMul64 (b : Base) (R : Hp) (x1 : Int) (x2 : Int) (x8 : Int) (x9 : Int) (hm : mBitsMul64 x1 x2 = some (x8, x9)) :
    CallsG Tryz.prog 75 [.int .u64 (x1), .int .u64 (x2)] b (R) (fun v b' hp' => .tuple #[.int .u64 (x8), .int .u64 (x9)] = v ∧ R = hp') := by
  refine fn_enterG 51 Tryz.func75 rfl Tryz.ntmps75 rfl ?_
  unfold mBitsMul64 at hm
  refine c_sr ?_
  refine t_as rfl rfl ?_
  refine t_as rfl rfl ?_
  refine t_ne ?_
  refine c_sr ?_
  refine t_mv rfl rfl ?_
  refine t_st rfl (st_and rfl rfl) ?_
  refine t_as rfl rfl ?_
  refine t_ne ?_
  refine c_sr ?_
  refine t_mv rfl rfl ?_
  obtain ⟨_, h10, hm⟩ := bindS hm
  have h10 := shN_some h10
  refine t_st rfl (st_shr rfl rfl h10) ?_
  refine t_as rfl rfl ?_
  refine t_ne ?_
  refine c_sr ?_
  refine t_mv rfl rfl ?_
  refine t_st rfl (st_and rfl rfl) ?_
  refine t_as rfl rfl ?_
  refine t_ne ?_
  refine c_sr ?_
  refine t_mv rfl rfl ?_
  obtain ⟨_, h11, hm⟩ := bindS hm
  have h11 := shN_some h11
  refine t_st rfl (st_shr rfl rfl h11) ?_
  refine t_as rfl rfl ?_
  refine t_ne ?_
  refine c_sr ?_
  refine t_mv rfl rfl ?_
  refine t_mv rfl rfl ?_
  refine t_st rfl (st_mul_w rfl rfl) ?_
  refine t_as rfl rfl ?_
  refine t_ne ?_
  refine c_sr ?_
  refine t_mv rfl rfl ?_
  refine t_mv rfl rfl ?_
  refine t_st rfl (st_mul_w rfl rfl) ?_
  refine t_mv rfl rfl ?_
  obtain ⟨_, h12, hm⟩ := bindS hm
  have h12 := shN_some h12
  refine t_st rfl (st_shr rfl rfl h12) ?_
  refine t_st rfl (st_add_w rfl rfl) ?_
  refine t_as rfl rfl ?_
  refine t_ne ?_
  refine c_sr ?_
  refine t_mv rfl rfl ?_
  refine t_st rfl (st_and rfl rfl) ?_
  refine t_as rfl rfl ?_
  refine t_ne ?_
  refine c_sr ?_
  refine t_mv rfl rfl ?_
  obtain ⟨_, h13, hm⟩ := bindS hm
  have h13 := shN_some h13
  refine t_st rfl (st_shr rfl rfl h13) ?_
  refine t_as rfl rfl ?_
  refine t_ne ?_
  refine c_sr ?_
  refine t_mv rfl rfl ?_
  refine t_mv rfl rfl ?_
  refine t_mv rfl rfl ?_
  refine t_st rfl (st_mul_w rfl rfl) ?_
  refine t_st rfl (st_add_w rfl rfl) ?_
  refine t_as rfl rfl ?_
  refine t_ne ?_
  refine c_sr ?_
  refine t_mv rfl rfl ?_
  refine t_mv rfl rfl ?_
  refine t_st rfl (st_mul_w rfl rfl) ?_
  refine t_mv rfl rfl ?_
  refine t_st rfl (st_add_w rfl rfl) ?_
  refine t_mv rfl rfl ?_
  obtain ⟨_, h14, hm⟩ := bindS hm
  have h14 := shN_some h14
  refine t_st rfl (st_shr rfl rfl h14) ?_
  refine t_st rfl (st_add_w rfl rfl) ?_
  refine t_as rfl rfl ?_
  refine t_ne ?_
  refine c_sr ?_
  refine t_mv rfl rfl ?_
  refine t_mv rfl rfl ?_
  refine t_st rfl (st_mul_w rfl rfl) ?_
  refine t_as rfl rfl ?_
  refine t_ne ?_
  refine c_ret ?_
  obtain ⟨rfl, rfl⟩ := some2 hm
  exact retM (rs := [.tmp 4, .tmp 5]) [.int .u64 (IntKind.wrap .u64 ((IntKind.wrap .u64 ((IntKind.wrap .u64 ((shrI .u64 x1 32) * (shrI .u64 x2 32))) + (shrI .u64 (IntKind.wrap .u64 ((IntKind.wrap .u64 ((shrI .u64 x1 32) * (andI .u64 x2 4294967295))) + (shrI .u64 (IntKind.wrap .u64 ((andI .u64 x1 4294967295) * (andI .u64 x2 4294967295))) 32))) 32))) + (shrI .u64 (IntKind.wrap .u64 ((andI .u64 (IntKind.wrap .u64 ((IntKind.wrap .u64 ((shrI .u64 x1 32) * (andI .u64 x2 4294967295))) + (shrI .u64 (IntKind.wrap .u64 ((andI .u64 x1 4294967295) * (andI .u64 x2 4294967295))) 32))) 4294967295) + (IntKind.wrap .u64 ((andI .u64 x1 4294967295) * (shrI .u64 x2 32))))) 32))), .int .u64 (IntKind.wrap .u64 (x1 * x2))] (Base.Le.refl _) (by decide) rfl ⟨rfl, ⟨rfl, trivial⟩⟩ rfl (.refl _) ⟨rfl, rfl⟩

set_option maxRecDepth 20000 in
theorem cBitsMul (b : Base) (R : Hp) (x1 : Int) (x2 : Int) (x6 : Int) (x7 : Int) (hm : mBitsMul x1 x2 = some (x6, x7)) :
    CallsG Tryz.prog 56 [.int .u64 (x1), .int .u64 (x2)] b (R) (fun v b' hp' => .tuple #[.int .u64 (x6), .int .u64 (x7)] = v ∧ R = hp') := by
  refine fn_enterG 30 Tryz.func56 rfl Tryz.ntmps56 rfl ?_
  unfold mBitsMul at hm
  refine c_sr ?_
  refine t_as rfl rfl ?_
  refine t_as rfl rfl ?_
  refine t_ne ?_
  refine c_seq ?_
  refine c_cond_f rfl ?_
  refine c_skip ?_
  refine x_then_normal ?_
  refine c_sr ?_
  refine t_mv rfl rfl ?_
  refine t_mv rfl rfl ?_
  obtain ⟨⟨x8, x9⟩, hcl10, hm⟩ := bindS hm
  have hm := (unc2E hm)
  refine t_do rfl (u_callW0 _ call75 rfl (fun w ho => cBitsMul64 _ [] x1 x2 x8 x9 hcl10) (fun _ _ _ h => h.2.symm)) ?_
  rintro _ _ ⟨⟨_, rfl, _⟩, rfl⟩
  refine t_mv rfl rfl ?_
  refine t_st rfl (st_extract rfl rfl) ?_
  refine t_st rfl (st_extract rfl rfl) ?_
  refine t_as rfl rfl ?_
  refine t_as rfl rfl ?_
  refine t_ne ?_
  refine c_sr ?_
  refine t_mv rfl rfl ?_
  refine t_mv rfl rfl ?_
  refine t_as rfl rfl ?_
  refine t_as rfl rfl ?_
  refine t_ne ?_
  refine c_ret ?_
  obtain ⟨rfl, rfl⟩ := some2 hm
  exact retM (rs := [.tmp 4, .tmp 5]) [.int .u64 (x8), .int .u64 (x9)] (Base.Le.refl _) (by decide) rfl ⟨rfl, ⟨rfl, trivial⟩⟩ rfl (.refl _) ⟨rfl, rfl⟩

set_option maxRecDepth 20000 in
theorem cSlicesRepeat (b : Base) (R : Hp) (l4 : (List Int)) (x5 : Int) (A1 : Option Addr) (c2 : Nat) (h3 : FZ (RT.int .i64) b.w A1 c2 l4) (l401 : (List Int)) (hm : mSlicesRepeat l4 x5 = some l401) :
    CallsG Tryz.prog 35 [.slice A1 (l4).length c2, .int .i64 (x5)] b (R) (fun v b' hp' => ∃ (A398 : Option Addr), ∃ (c399 : Nat), ∃ (hs397 : Hp), .slice A398 (l401).length c399 = v ∧ (hs397 ++ R) = hp' ∧ OS 3 (OT.fr (RT.int .i64)) b'.w (.slice A398 l401.length c399) l401 hs397) := by
  refine fn_enterG 48 Tryz.func35 rfl Tryz.ntmps35 rfl ?_
  unfold mSlicesRepeat at hm
  refine c_sr ?_
  refine t_as rfl rfl ?_
  refine t_ne ?_
  refine c_seq ?_
  refine c_sr ?_
  refine t_mv rfl rfl ?_
  refine t_st rfl (st_lss rfl rfl) ?_
  refine t_ne ?_
  refine c_cond _ rfl (fun hc402 => ?_) (fun hc402 => ?_)
  ·
   rw [if_pos (of_decide_eq_true hc402)] at hm
   cases hm
  ·
   rw [if_neg (of_decide_eq_false hc402)] at hm
   refine c_skip ?_
   refine x_then_normal ?_
   refine c_sr ?_
   refine t_mv rfl rfl ?_
   refine t_st rfl (st_len rfl sl22) ?_
   refine t_st rfl (st_conv rfl int3_i64 int101_u64) ?_
   refine t_mv rfl rfl ?_
   refine t_st rfl (st_conv rfl int3_i64 int101_u64) ?_
   obtain ⟨⟨x403, x404⟩, hcl405, hm⟩ := bindS hm
   have hm := (unc2E hm)
   refine t_do rfl (u_callW0 _ call56 rfl (fun w ho => cBitsMul _ [] (IntKind.wrap .u64 (l4.length : Int)) (IntKind.wrap .u64 x5) x403 x404 hcl405) (fun _ _ _ h => h.2.symm)) ?_
   rintro _ _ ⟨⟨_, rfl, _⟩, rfl⟩
   refine t_mv rfl rfl ?_
   refine t_st rfl (st_extract rfl rfl) ?_
   refine t_st rfl (st_extract rfl rfl) ?_
   refine t_as rfl rfl ?_
   refine t_as rfl rfl ?_
   refine t_ne ?_
   refine c_seq ?_
   obtain ⟨x409, hj410, hk410⟩ := bindS hm
   refine c_join (fun b407 e' hp' => [(0, .slice A1 (l4).length c2), (6, .int .u64 (x404)), (26, .bool (x409))] = e' ∧ R = hp' ∧ b.Le b407) ?_ ?_
   ·
    have hm := hj410
    refine c_region ?_
    refine t_mv rfl rfl ?_
    refine t_bool rfl (st_gtr rfl rfl) (fun hc411 => ?_) (fun hc411 => ?_)
    ·
     rw [if_pos hc411] at hm
     refine t_mv rfl rfl ?_
     refine t_no 23 rfl rfl rfl rfl rfl ?_
     refine t_no 23 rfl rfl rfl rfl rfl ?_
     refine t_st rfl (st_pick_t rfl rfl) ?_
     refine t_nil ?_
     obtain rfl := some1 hm
     exact x_join (e' := [(0, .slice A1 (l4).length c2), (6, .int .u64 (x404)), (26, .bool (true))]) ⟨rfl, rfl, rfl, trivial⟩ (.refl _) ⟨rfl, rfl, (Base.Le.refl _)⟩
    ·
     rw [if_neg hc411] at hm
     refine t_mv rfl rfl ?_
     refine t_yes 23 rfl rfl rfl ?_
     refine t_mv rfl rfl ?_
     refine t_yes 23 rfl rfl rfl ?_
     refine t_st rfl (st_gtr rfl rfl) ?_
     refine t_st rfl (st_pick_f rfl rfl) ?_
     refine t_nil ?_
     obtain rfl := some1 hm
     exact x_join (e' := [(0, .slice A1 (l4).length c2), (6, .int .u64 (x404)), (26, .bool (decide (9223372036854775807 < x404)))]) ⟨rfl, rfl, rfl, trivial⟩ (.refl _) ⟨rfl, rfl, (Base.Le.refl _)⟩
   ·
    rintro b407 _ _ ⟨rfl, rfl, hle408⟩
    have hm := hk410
    refine c_cond _ rfl (fun hc412 => ?_) (fun hc412 => ?_)
    ·
     rw [if_pos hc412] at hm
     cases hm
    ·
     rw [if_neg (fun hh => Bool.noConfusion (hh.symm.trans hc412))] at hm
     refine c_skip ?_
     refine x_then_normal ?_
     refine c_sr ?_
     refine t_mv rfl rfl ?_
     refine t_st rfl (st_conv rfl int101_u64 int3_i64) ?_
     obtain ⟨m413, h414, hm⟩ := bindS hm
     have h414 := mkLen_some h414
     refine t_do rfl (u_mkOS (r := (RT.int .i64)) [] R [.int .i64 (0)] 0 m413 rfl h414.1 rfl rfl sl22 inf3 rfl rfl rfl (by decide) rfl h414.2.1 h414.2.2) ?_
     rintro _ _ ⟨hs415, rfl, h416⟩
     obtain ⟨A417, c418, rfl, _⟩ := h416.form
     refine t_as rfl rfl ?_
     refine t_ne ?_
     refine c_sr ?_
     refine t_mv rfl rfl ?_
     refine t_mv rfl rfl ?_
     obtain ⟨css419, h420, h421⟩ := rd_src (h3.le hle408)
     refine t_do rfl (u_copyI (r := (RT.int .i64)) (m := l4) (show (0 : Int) = ((0 : Nat) : Int) from rfl) rfl [] R css419 rfl sl22 rfl rfl (subA_zero _ _ _).symm (Nat.sub_zero _).symm rfl (Nat.zero_le _) (Nat.le_refl _) h416 rfl (fun w ho => h420.old ho) h421) ?_
     rintro _ _ ⟨rfl, hs422, rfl, h423⟩
     refine t_resp 7 rfl (v' := .slice A417 (cpyI (List.replicate m413 (0 : Int)) 0 ((List.replicate m413 (0 : Int)).length : Int) l4).length c418) (by rw [(cpyI_length (show (0 : Int) = ((0 : Nat) : Int) from rfl) rfl (Nat.zero_le _) (Nat.le_refl _))]) ?_
     refine t_as rfl rfl ?_
     refine t_ne ?_
     obtain ⟨l609, hj611, hk611⟩ := bindS hm
     refine c_join (fun b604 e' hp' => ∃ (hs607 : Hp), [(7, .slice A417 (l609).length c418)] = e' ∧ (hs607 ++ R) = hp' ∧ b407.Le b604 ∧ OS 3 (OT.fr (RT.int .i64)) b604.w (.slice A417 l609.length c418) l609 hs607 ∧ l609.length = m413) ?_ ?_
     ·
      have hm := hj611
      refine c_block ?_
      refine c_loopM (unc2 fun x734 l735 => fun b729 e' hp' => ∃ (hs732 : Hp), [(7, .slice A417 (l735).length c418), (8, .int .i64 (x734))] = e' ∧ (hs732 ++ R) = hp' ∧ b407.Le b729 ∧ OS 3 (OT.fr (RT.int .i64)) b729.w (.slice A417 l735.length c418) l735 hs732 ∧ l735.length = m413) hm (e' := [(7, .slice A417 (cpyI (List.replicate m413 (0 : Int)) 0 ((List.replicate m413 (0 : Int)).length : Int) l4).length c418), (8, .int .i64 (cpyN 0 ((List.replicate m413 (0 : Int)).length : Int) l4))]) ⟨rfl, rfl, trivial⟩ (.refl _) ⟨hs422, rfl, rfl, (Base.Le.refl _), h423, ((cpyI_length (show (0 : Int) = ((0 : Nat) : Int) from rfl) rfl (Nat.zero_le _) (Nat.le_refl _)).trans List.length_replicate)⟩ ?_
      rintro ⟨x734, l735⟩ b729 _ _ oL612 ⟨hs732, rfl, rfl, hle730, h733, hln736⟩ hstepL612 houtL612
      unfold mSlicesRepeat_L612 at hstepL612
      have hm := (unc2E hstepL612)
      refine c_seq ?_
      refine c_sr ?_
      refine t_mv rfl rfl ?_
      refine t_mv rfl rfl ?_
      refine t_st rfl (st_len rfl sl22) ?_
      refine t_st rfl (st_lss rfl rfl) ?_
      refine t_ne ?_
      refine c_cond _ rfl (fun hc737 => ?_) (fun hc737 => ?_)
      ·
       rw [if_pos (of_decide_eq_true hc737)] at hm
       refine c_skip ?_
       refine x_then_normal ?_
       refine c_block ?_
       obtain ⟨l765, h766, hm⟩ := bindS hm
       obtain ⟨l775, h776, hm⟩ := bindS hm
       obtain ⟨_, h791, hm⟩ := bindS hm
       refine D_drawI mixed (sub_skip hs732 (.refl _)) ?_
       refine E_st 0 rfl (st_move rfl) ?_
       refine E_st 1 rfl (st_move rfl) ?_
       refine E_st 2 rfl (st_move rfl) ?_
       obtain ⟨j767, j768, hj769, hj770, hj771, hj772, hx773⟩ := cutS_some h766
       have h774 := OS.lc h733
       refine E_st 3 rfl (hx773 ▸ st_part (l := l735) j767 j768 rfl (.inr ⟨_, _, _, rfl, rfl, hj769⟩) (.inl ⟨rfl, by omega⟩) hj771 hj772 h774 sl22) ?_
       refine E_st 4 rfl (st_move rfl) ?_
       refine E_st 5 rfl (st_move rfl) ?_
       obtain ⟨j777, j778, hj779, hj780, hj781, hj782, hx783⟩ := cutS_some h776
       have h784 := OS.lc h733
       refine E_st 6 rfl (hx783 ▸ st_part (l := l735) j777 j778 rfl (.inl ⟨rfl, by omega⟩) (.inr ⟨_, _, _, rfl, rfl, hj780⟩) hj781 hj782 h784 sl22) ?_
       refine E_out ?_
       obtain ⟨css785, h786, h787⟩ := rd_own h733 (List.sublist_append_left _ _)
       have h788 := OS.lc h733
       refine D_all [7] (by kernel_rfl) rfl ?_
       refine R_do (Base.Le.refl _) rfl rfl (u_copyI (r := (RT.int .i64)) (m := l775) hj769 hj770 [] R ((css785.take j778).drop j777) rfl sl22 rfl rfl rfl (cut_len hx773 hj771 hj772) rfl hj771 hj772 h733 rfl (fun w ho => rd_part rfl hj781 hj782 h788 (h786 w ho) ⟨_, h787⟩) (cut_all hx783 h787)) ?_ ?_
       ·
        rintro _ _ ⟨rfl, hs789, rfl, h790⟩
        refine ⟨.inr (sub_skip hs789 (.refl _)), ?_⟩
        refine d_resp 7 rfl (v' := .slice A417 (cpyI l735 x734 (l735.length : Int) l775).length c418) (by rw [(cpyI_length hj769 hj770 hj771 hj772)]) ?_
        have h791 := (chk_some h791).2
        refine E_in (sub_skip hs789 (.refl _)) ?_
        refine E_st 8 rfl (st_add rfl rfl h791) ?_
        refine E_st 9 rfl (st_assign rfl) ?_
        refine E_out ?_
        refine D_done (by kernel_rfl) ?_
        refine x_block_normal ?_
        exact x_againM (x734 + (cpyN x734 (l735.length : Int) l775), cpyI l735 x734 (l735.length : Int) l775) (Option.some.inj hm).symm (e' := [(7, .slice A417 (cpyI l735 x734 (l735.length : Int) l775).length c418), (8, .int .i64 (x734 + (cpyN x734 (l735.length : Int) l775)))]) ⟨rfl, rfl, trivial⟩ (.refl _) ⟨hs789, rfl, rfl, (hle730), h790, ((cpyI_length hj769 hj770 hj771 hj772).trans hln736)⟩
       exact R_nil
      ·
       rw [if_neg (of_decide_eq_false hc737)] at hm
       refine c_exit ?_
       refine x_then_exit ?_
       refine x_then_exit ?_
       refine x_block_out ?_
       have hm := congrArg some (houtL612 _ (Option.some.inj hm).symm)
       obtain rfl := some1 hm
       exact x_join (e' := [(7, .slice A417 (l735).length c418)]) ⟨rfl, trivial⟩ (.refl _) ⟨hs732, rfl, rfl, hle730, h733, hln736⟩
     ·
      rintro b604 _ _ ⟨hs607, rfl, rfl, hle605, h608, hln610⟩
      have hm := hk611
      refine c_sr ?_
      refine t_mv rfl rfl ?_
      refine t_as rfl rfl ?_
      refine t_ne ?_
      refine c_ret ?_
      obtain rfl := some1 hm
      exact retM (rs := [.tmp 4]) [.slice A417 (l609).length c418] (hle408.trans hle605) (by decide) rfl ⟨rfl, trivial⟩ rfl (.refl _) ⟨A417, c418, hs607, rfl, rfl, h608⟩

set_option maxRecDepth 20000 in
theorem cFishref2PackOf (b : Base) (R : Hp) (l4 : (List FareSpan)) (x5 : Int) (x6 : Int) (A1 : Option Addr) (c2 : Nat) (h3 : FZ rFareSpan b.w A1 c2 l4) (x18058 : Int) (l18059 : (List Int)) (hm : mFishref2PackOf l4 x5 x6 = some (x18058, l18059)) :
    CallsG Tryz.prog 15 [.slice A1 (l4).length c2, .int .i64 (x5), .int .i64 (x6)] b (R) (fun v b' hp' => ∃ (A18055 : Option Addr), ∃ (c18056 : Nat), ∃ (hs18054 : Hp), .tuple #[.slice A18055 (l18059).length c18056, .int .i64 (x18058)] = v ∧ (hs18054 ++ R) = hp' ∧ OS 3 (OT.fr (RT.int .i64)) b'.w (.slice A18055 l18059.length c18056) l18059 hs18054) := by
  refine fn_enterG 113 Tryz.func15 rfl Tryz.ntmps15 rfl ?_
  unfold mFishref2PackOf at hm
  refine c_sr ?_
  refine t_as rfl rfl ?_
  refine t_as rfl rfl ?_
  refine t_ne ?_
  refine c_seq ?_
  refine c_sr ?_
  refine t_mv rfl rfl ?_
  refine t_st rfl (st_len rfl sl43) ?_
  refine t_st rfl (st_gtr rfl rfl) ?_
  refine t_ne ?_
  refine c_cond _ rfl (fun hc18060 => ?_) (fun hc18060 => ?_)
  ·
   rw [if_pos (of_decide_eq_true hc18060)] at hm
   refine c_sr ?_
   refine t_as rfl rfl ?_
   refine t_as rfl rfl ?_
   refine t_ne ?_
   refine c_ret ?_
   refine x_then_ret ?_
   obtain ⟨rfl, rfl⟩ := some2 hm
   exact retM (rs := [.tmp 6, .tmp 7]) [.slice none 0 0, .int .i64 (4)] (Base.Le.refl _) (by decide) rfl ⟨rfl, ⟨rfl, trivial⟩⟩ rfl (.refl _) ⟨none, 0, [], rfl, rfl, OS.nil⟩
  ·
   rw [if_neg (of_decide_eq_false hc18060)] at hm
   refine c_skip ?_
   refine x_then_normal ?_
   refine c_seq ?_
   obtain ⟨x18068, hj18069, hk18069⟩ := bindS hm
   refine c_join (fun b18066 e' hp' => [(0, .slice A1 (l4).length c2), (1, .int .i64 (x5)), (2, .int .i64 (x6)), (26, .bool (x18068))] = e' ∧ R = hp' ∧ b.Le b18066) ?_ ?_
   ·
    have hm := hj18069
    refine c_region ?_
    refine t_mv rfl rfl ?_
    obtain ⟨x18070, hcl18071, hm⟩ := bindS hm
    refine t_do rfl (u_callW0 _ call27 rfl (fun w ho => cFishref2Within _ [] x5 1 80 x18070 hcl18071) (fun _ _ _ h => h.2.symm)) ?_
    rintro _ _ ⟨⟨_, rfl, _⟩, rfl⟩
    rcases Bool.eq_false_or_eq_true x18070 with hc18072 | hc18072
    ·
     rw [if_pos hc18072] at hm
     refine t_resp 20 rfl (v' := .bool true) (by rw [hc18072] <;> rfl) ?_
     refine t_st rfl (st_not_t rfl) ?_
     refine t_mv rfl rfl ?_
     refine t_yes 22 rfl rfl rfl ?_
     refine t_mv rfl rfl ?_
     refine t_yes 22 rfl rfl rfl ?_
     obtain ⟨x18073, hcl18074, hm⟩ := bindS hm
     refine t_do rfl (u_callW0 _ call27 rfl (fun w ho => cFishref2Within _ [] x6 2 12 x18073 hcl18074) (fun _ _ _ h => h.2.symm)) ?_
     rintro _ _ ⟨⟨_, rfl, _⟩, rfl⟩
     refine t_yes 22 rfl rfl rfl ?_
     refine t_st rfl (st_not rfl) ?_
     refine t_st rfl (st_pick_f rfl rfl) ?_
     refine t_nil ?_
     obtain rfl := some1 hm
     exact x_join (e' := [(0, .slice A1 (l4).length c2), (1, .int .i64 (x5)), (2, .int .i64 (x6)), (26, .bool (!x18073))]) ⟨rfl, rfl, rfl, rfl, trivial⟩ (.refl _) ⟨rfl, rfl, (Base.Le.refl _)⟩
    ·
     rw [if_neg (fun hh => Bool.noConfusion (hh.symm.trans hc18072))] at hm
     refine t_resp 20 rfl (v' := .bool false) (by rw [hc18072] <;> rfl) ?_
     refine t_st rfl (st_not_f rfl) ?_
     refine t_mv rfl rfl ?_
     refine t_no 22 rfl rfl rfl rfl rfl ?_
     refine t_no 22 rfl rfl rfl rfl rfl ?_
     refine t_no 22 rfl rfl rfl rfl rfl ?_
     refine t_st rfl (st_pick_t rfl rfl) ?_
     refine t_nil ?_
     obtain rfl := some1 hm
     exact x_join (e' := [(0, .slice A1 (l4).length c2), (1, .int .i64 (x5)), (2, .int .i64 (x6)), (26, .bool (true))]) ⟨rfl, rfl, rfl, rfl, trivial⟩ (.refl _) ⟨rfl, rfl, (Base.Le.refl _)⟩
   ·
    rintro b18066 _ _ ⟨rfl, rfl, hle18067⟩
    have hm := hk18069
    refine c_cond _ rfl (fun hc18075 => ?_) (fun hc18075 => ?_)
    ·
     rw [if_pos hc18075] at hm
     refine c_sr ?_
     refine t_as rfl rfl ?_
     refine t_as rfl rfl ?_
     refine t_ne ?_
     refine c_ret ?_
     refine x_then_ret ?_
     obtain ⟨rfl, rfl⟩ := some2 hm
     exact retM (rs := [.tmp 6, .tmp 7]) [.slice none 0 0, .int .i64 (2)] hle18067 (by decide) rfl ⟨rfl, ⟨rfl, trivial⟩⟩ rfl (.refl _) ⟨none, 0, [], rfl, rfl, OS.nil⟩
    ·
     rw [if_neg (fun hh => Bool.noConfusion (hh.symm.trans hc18075))] at hm
     refine c_skip ?_
     refine x_then_normal ?_
     refine c_seq ?_
     refine c_sr ?_
     refine t_mv rfl rfl ?_
     refine t_st rfl (st_len rfl sl43) ?_
     refine t_mv rfl rfl ?_
     refine t_ne ?_
     refine c_block ?_
     have hb18077 : l4.length ≤ 9223372036854775807 := (FZ.bd (h3.le hle18067))
     obtain ⟨t18101, hl18102, hk18103⟩ := bindS hm
     refine c_forM (fun k18100 => fun _ => fun b18098 e' hp' => [(0, .slice A1 (l4).length c2), (1, .int .i64 (x5)), (2, .int .i64 (x6)), (27, .slice A1 (l4).length c2), (28, .int .i64 ((l4.length : Int))), (29, .int .i64 ((k18100 : Int)))] = e' ∧ R = hp' ∧ b18066.Le b18098) hl18102 (e' := [(0, .slice A1 (l4).length c2), (1, .int .i64 (x5)), (2, .int .i64 (x6)), (27, .slice A1 (l4).length c2), (28, .int .i64 ((l4.length : Int))), (29, .int .i64 0)]) ⟨rfl, rfl, rfl, rfl, rfl, rfl, trivial⟩ (.refl _) ⟨rfl, rfl, (Base.Le.refl _)⟩ ?_ ?_
     ·
      rintro k18100 _ b18098 _ _ oL18076 hknL18076 ⟨rfl, rfl, hle18099⟩ hstepL18076 houtL18076
      unfold mFishref2PackOf_L18076 at hstepL18076
      have hm := hstepL18076
      refine c_sr ?_
      refine t_st rfl (st_lss_t rfl rfl (by omega)) ?_
      refine t_ne ?_
      refine c_seq ?_
      refine c_cond_t rfl ?_
      refine c_skip ?_
      refine x_then_normal ?_
      refine c_seq ?_
      refine c_block ?_
      refine c_sr ?_
      obtain ⟨x18104, h18105, hm⟩ := bindS hm
      obtain ⟨j18106, hj18107, hx18108⟩ := idx_some h18105
      obtain ⟨cs18109, hr18110, hcs18111, hA18112, hlt18113⟩ := FZ.get (sz := 2) rfl (by decide) (h3.le (hle18067.trans hle18099)) hx18108
      obtain ⟨_, _, rfl, rfl, rfl⟩ := hr18110
      refine t_st rfl (st_index_old j18106 rfl rfl hj18107 hlt18113 hA18112 sl43) ?_
      refine t_st rfl (st_loadN_old (vs := [.int .i64 (x18104.From), .int .i64 (x18104.To)]) 2 rfl agg46 hA18112 rfl (fun j u hu => hcs18111 j u hu)) ?_
      refine t_do rfl (u_alloc [.int .i64 0, .int .i64 0] zero46 rfl) ?_
      rintro _ _ ⟨g18114, rfl, rfl⟩
      refine t_do rfl (u_storeN (vs := [_, _]) 0 2 rfl rfl rfl siz46 rfl (mem_c rfl (mem_c rfl mem_n)) rfl (by simp)) ?_
      rintro _ _ rfl
      refine t_ne ?_
      obtain ⟨x18119, hj18120, hk18120⟩ := bindS hm
      refine c_join (fun b18117 e' hp' => [(0, .slice A1 (l4).length c2), (1, .int .i64 (x5)), (2, .int .i64 (x6)), (27, .slice A1 (l4).length c2), (28, .int .i64 ((l4.length : Int))), (29, .int .i64 ((k18100 : Int))), (48, .bool (x18119))] = e' ∧ R = hp' ∧ b18098.Le b18117) ?_ ?_
      ·
       have hm := hj18120
       refine c_region ?_
       refine t_st rfl (st_field rfl fld46_0) ?_
       refine t_st rfl (st_load 0 rfl one3 rfl rfl) ?_
       refine t_bool rfl (st_lss rfl rfl) (fun hc18121 => ?_) (fun hc18121 => ?_)
       ·
        rw [if_pos hc18121] at hm
        refine t_mv rfl rfl ?_
        refine t_no 36 rfl rfl rfl rfl rfl ?_
        refine t_no 36 rfl rfl rfl rfl rfl ?_
        refine t_no 36 rfl rfl rfl rfl rfl ?_
        refine t_no 36 rfl rfl rfl rfl rfl ?_
        refine t_no 36 rfl rfl rfl rfl rfl ?_
        refine t_st rfl (st_pick_t rfl rfl) ?_
        refine t_mv rfl rfl ?_
        refine t_no 43 rfl rfl rfl rfl rfl ?_
        refine t_no 43 rfl rfl rfl rfl rfl ?_
        refine t_no 43 rfl rfl rfl rfl rfl ?_
        refine t_no 43 rfl rfl rfl rfl rfl ?_
        refine t_st rfl (st_pick_t rfl rfl) ?_
        refine t_nil ?_
        obtain rfl := some1 hm
        exact x_join (e' := [(0, .slice A1 (l4).length c2), (1, .int .i64 (x5)), (2, .int .i64 (x6)), (27, .slice A1 (l4).length c2), (28, .int .i64 ((l4.length : Int))), (29, .int .i64 ((k18100 : Int))), (48, .bool (true))]) ⟨rfl, rfl, rfl, rfl, rfl, rfl, rfl, trivial⟩ (.cons _ (.refl _)) ⟨rfl, rfl, (Base.Le.refl _)⟩
       ·
        rw [if_neg hc18121] at hm
        refine t_mv rfl rfl ?_
        refine t_yes 36 rfl rfl rfl ?_
        refine t_st rfl (st_field rfl fld46_0) ?_
        refine t_yes 36 rfl rfl rfl ?_
        refine t_st rfl (st_load 0 rfl one3 rfl rfl) ?_
        refine t_yes 36 rfl rfl rfl ?_
        refine t_st rfl (st_field rfl fld46_1) ?_
        refine t_yes 36 rfl rfl rfl ?_
        refine t_st rfl (st_load 0 rfl one3 rfl rfl) ?_
        refine t_yes 36 rfl rfl rfl ?_
        refine t_bool rfl (st_geq rfl rfl) (fun hc18122 => ?_) (fun hc18122 => ?_)
        ·
         rw [if_pos hc18122] at hm
         refine t_st rfl (st_pick_f rfl rfl) ?_
         refine t_mv rfl rfl ?_
         refine t_no 43 rfl rfl rfl rfl rfl ?_
         refine t_no 43 rfl rfl rfl rfl rfl ?_
         refine t_no 43 rfl rfl rfl rfl rfl ?_
         refine t_no 43 rfl rfl rfl rfl rfl ?_
         refine t_st rfl (st_pick_t rfl rfl) ?_
         refine t_nil ?_
         obtain rfl := some1 hm
         exact x_join (e' := [(0, .slice A1 (l4).length c2), (1, .int .i64 (x5)), (2, .int .i64 (x6)), (27, .slice A1 (l4).length c2), (28, .int .i64 ((l4.length : Int))), (29, .int .i64 ((k18100 : Int))), (48, .bool (true))]) ⟨rfl, rfl, rfl, rfl, rfl, rfl, rfl, trivial⟩ (.cons _ (.refl _)) ⟨rfl, rfl, (Base.Le.refl _)⟩
        ·
         rw [if_neg hc18122] at hm
         refine t_st rfl (st_pick_f rfl rfl) ?_
         refine t_mv rfl rfl ?_
         refine t_yes 43 rfl rfl rfl ?_
         refine t_st rfl (st_field rfl fld46_1) ?_
         refine t_yes 43 rfl rfl rfl ?_
         refine t_st rfl (st_load 0 rfl one3 rfl rfl) ?_
         refine t_yes 43 rfl rfl rfl ?_
         refine t_mv rfl rfl ?_
         refine t_yes 43 rfl rfl rfl ?_
         refine t_st rfl (st_geq rfl rfl) ?_
         refine t_st rfl (st_pick_f rfl rfl) ?_
         refine t_nil ?_
         obtain rfl := some1 hm
         exact x_join (e' := [(0, .slice A1 (l4).length c2), (1, .int .i64 (x5)), (2, .int .i64 (x6)), (27, .slice A1 (l4).length c2), (28, .int .i64 ((l4.length : Int))), (29, .int .i64 ((k18100 : Int))), (48, .bool (decide (x6 ≤ x18104.To)))]) ⟨rfl, rfl, rfl, rfl, rfl, rfl, rfl, trivial⟩ (.cons _ (.refl _)) ⟨rfl, rfl, (Base.Le.refl _)⟩
      ·
       rintro b18117 _ _ ⟨rfl, rfl, hle18118⟩
       have hm := hk18120
       refine c_cond _ rfl (fun hc18123 => ?_) (fun hc18123 => ?_)
       ·
        rw [if_pos hc18123] at hm
        refine c_sr ?_
        refine t_as rfl rfl ?_
        refine t_as rfl rfl ?_
        refine t_ne ?_
        refine c_ret ?_
        refine x_block_ret ?_
        refine x_then_ret ?_
        refine x_then_ret ?_
        refine x_block_ret ?_
        refine x_then_ret ?_
        have hq18124 := houtL18076 _ (Option.some.inj hm).symm
        rw [hq18124] at hk18103
        have hm := elimR hk18103
        obtain ⟨rfl, rfl⟩ := some2 hm
        exact retM (rs := [.tmp 6, .tmp 7]) [.slice none 0 0, .int .i64 (2)] (hle18067.trans (hle18099.trans hle18118)) (by decide) rfl ⟨rfl, ⟨rfl, trivial⟩⟩ rfl (.refl _) ⟨none, 0, [], rfl, rfl, OS.nil⟩
       ·
        rw [if_neg (fun hh => Bool.noConfusion (hh.symm.trans hc18123))] at hm
        refine c_skip ?_
        refine x_block_normal ?_
        refine x_then_normal ?_
        refine c_region ?_
        refine t_st rfl (st_add rfl rfl (by omega)) ?_
        refine t_mv rfl rfl ?_
        refine t_nil ?_
        exact x_againM () (Option.some.inj hm).symm (e' := [(0, .slice A1 (l4).length c2), (1, .int .i64 (x5)), (2, .int .i64 (x6)), (27, .slice A1 (l4).length c2), (28, .int .i64 ((l4.length : Int))), (29, .int .i64 ((k18100 : Int) + 1))]) ⟨rfl, rfl, rfl, rfl, rfl, rfl, trivial⟩ (.refl _) ⟨rfl, rfl, ((hle18099.trans hle18118))⟩
     ·
      rintro _ b18098 _ _ ⟨rfl, rfl, hle18099⟩ hq18125
      rw [hq18125] at hk18103
      have hm := elimL hk18103
      refine c_sr ?_
      refine t_st rfl (st_lss_f rfl rfl (by omega)) ?_
      refine t_ne ?_
      refine c_seq ?_
      refine c_cond_f rfl ?_
      refine c_exit ?_
      refine x_then_exit ?_
      refine x_then_exit ?_
      refine x_block_out ?_
      refine x_then_normal ?_
      refine c_sr ?_
      refine t_do rfl (u_bslice (el := 3) [(0, .int .i64 ((-1)))] [.int .i64 ((-1))] rfl (fun _ => by kernel_rfl)) ?_
      rintro _ _ ⟨g18126, rfl, rfl⟩
      refine t_mv rfl rfl ?_
      refine t_st rfl (st_len rfl sl43) ?_
      refine t_seg 0 [] R rfl rfl ?_
      have h18128 : OS 3 (OT.fr (RT.int .i64)) b18098.w (.slice (some ⟨g18126, 0, none⟩) 1 1) [(-1)] [(g18126, Cl 3 [.int .i64 ((-1))])] := OS.lit [[.int .i64 ((-1))]] rfl ⟨rfl, trivial⟩ rfl (by decide)
      obtain ⟨l18129, hcl18130, hm⟩ := bindS hm
      refine t_do rfl (u_callWF [] ([(g18126, Cl 3 [.int .i64 ((-1))])] ++ R) _ rfl call35 rfl (fun w ho => cSlicesRepeat _ [] [(-1)] (l4.length : Int) (some ⟨g18126, 0, none⟩) 1 (OS.now (o := (OT.fr (RT.int .i64))) (l := [(-1)]) (hs := [(g18126, Cl 3 [.int .i64 ((-1))])]) h18128 ho (List.sublist_append_left _ _)) l18129 hcl18130)) ?_
      rintro _ _ ⟨_, _, rfl, A18131, c18132, hs18133, rfl, hq18136, h18134⟩
      obtain rfl := List.append_cancel_right hq18136
      have h18135 := flat_fz (w' := b18098.w) (fun _ _ _ _ h => h) h18134
      refine t_as rfl rfl ?_
      refine t_ne ?_
      refine c_seq ?_
      refine c_sr ?_
      refine t_mv rfl rfl ?_
      refine t_mv rfl rfl ?_
      refine t_ne ?_
      refine c_block ?_
      obtain ⟨_, h18138, hm⟩ := bindS hm
      have h18138 := (chk_some h18138).2
      obtain ⟨t30118, hl30119, hk30120⟩ := bindS hm
      refine c_forM (fun k30117 => fun l30116 => fun b30109 e' hp' => ∃ (A30113 : Option Addr), ∃ (c30114 : Nat), ∃ (hs30112 : Hp), [(0, .slice A1 (l4).length c2), (1, .int .i64 (x5)), (10, .slice A30113 (l30116).length c30114), (54, .int .i64 (x6)), (55, .int .i64 ((k30117 : Int)))] = e' ∧ (hs30112 ++ R) = hp' ∧ b18098.Le b30109 ∧ OS 3 (OT.fr (RT.int .i64)) b30109.w (.slice A30113 l30116.length c30114) l30116 hs30112) hl30119 (e' := [(0, .slice A1 (l4).length c2), (1, .int .i64 (x5)), (10, .slice A18131 (l18129).length c18132), (54, .int .i64 (x6)), (55, .int .i64 0)]) ⟨rfl, rfl, rfl, rfl, rfl, trivial⟩ (sub_app hs18133 (sub_skip [(g18126, Cl 3 [.int .i64 ((-1))])] (.refl _))) ⟨A18131, c18132, hs18133, rfl, rfl, (Base.Le.refl _), h18135⟩ ?_ ?_
      ·
       rintro k30117 l30116 b30109 _ _ oL18137 hknL18137 ⟨A30113, c30114, hs30112, rfl, rfl, hle30110, h30115⟩ hstepL18137 houtL18137
       unfold mFishref2PackOf_L18137 at hstepL18137
       have hm := hstepL18137
       refine c_sr ?_
       refine t_st rfl (st_lss_t rfl rfl (by omega)) ?_
       refine t_ne ?_
       refine c_seq ?_
       refine c_cond_t rfl ?_
       refine c_skip ?_
       refine x_then_normal ?_
       refine c_seq ?_
       refine c_block ?_
       refine c_sr ?_
       refine t_mv rfl rfl ?_
       refine t_as rfl rfl ?_
       refine t_ne ?_
       refine c_sr ?_
       refine t_mv rfl rfl ?_
       refine t_st rfl (st_len rfl sl43) ?_
       refine t_mv rfl rfl ?_
       refine t_ne ?_
       refine c_block ?_
       have hb30122 : l4.length ≤ 9223372036854775807 := (FZ.bd (h3.le (hle18067.trans (hle18099.trans hle30110))))
       obtain ⟨t34112, hl34113, hk34114⟩ := bindS hm
       refine c_forM (fun k34111 => fun l34110 => fun b34103 e' hp' => ∃ (A34107 : Option Addr), ∃ (c34108 : Nat), ∃ (hs34106 : Hp), [(0, .slice A1 (l4).length c2), (1, .int .i64 (x5)), (10, .slice A34107 (l34110).length c34108), (11, .int .i64 ((k30117 : Int))), (54, .int .i64 (x6)), (55, .int .i64 ((k30117 : Int))), (58, .slice A1 (l4).length c2), (59, .int .i64 ((l4.length : Int))), (60, .int .i64 ((k34111 : Int)))] = e' ∧ (hs34106 ++ R) = hp' ∧ b30109.Le b34103 ∧ OS 3 (OT.fr (RT.int .i64)) b34103.w (.slice A34107 l34110.length c34108) l34110 hs34106) hl34113 (e' := [(0, .slice A1 (l4).length c2), (1, .int .i64 (x5)), (10, .slice A30113 (l30116).length c30114), (11, .int .i64 ((k30117 : Int))), (54, .int .i64 (x6)), (55, .int .i64 ((k30117 : Int))), (58, .slice A1 (l4).length c2), (59, .int .i64 ((l4.length : Int))), (60, .int .i64 0)]) ⟨rfl, rfl, rfl, rfl, rfl, rfl, rfl, rfl, rfl, trivial⟩ (.refl _) ⟨A30113, c30114, hs30112, rfl, rfl, (Base.Le.refl _), h30115⟩ ?_ ?_
       ·
        rintro k34111 l34110 b34103 _ _ oL30121 hknL30121 ⟨A34107, c34108, hs34106, rfl, rfl, hle34104, h34109⟩ hstepL30121 houtL30121
        unfold mFishref2PackOf_L30121 at hstepL30121
        have hm := hstepL30121
        refine c_sr ?_
        refine t_st rfl (st_lss_t rfl rfl (by omega)) ?_
        refine t_ne ?_
        refine c_seq ?_
        refine c_cond_t rfl ?_
        refine c_skip ?_
        refine x_then_normal ?_
        refine c_seq ?_
        refine c_block ?_
        refine c_sr ?_
        refine t_mv rfl rfl ?_
        obtain ⟨x34115, h34116, hm⟩ := bindS hm
        obtain ⟨j34117, hj34118, hx34119⟩ := idx_some h34116
        obtain ⟨cs34120, hr34121, hcs34122, hA34123, hlt34124⟩ := FZ.get (sz := 2) rfl (by decide) (h3.le (hle18067.trans (hle18099.trans (hle30110.trans hle34104)))) hx34119
        obtain ⟨_, _, rfl, rfl, rfl⟩ := hr34121
        refine t_st rfl (st_index_old j34117 rfl rfl hj34118 hlt34124 hA34123 sl43) ?_
        refine t_st rfl (st_loadN_old (vs := [.int .i64 (x34115.From), .int .i64 (x34115.To)]) 2 rfl agg46 hA34123 rfl (fun j u hu => hcs34122 j u hu)) ?_
        refine t_do rfl (u_alloc [.int .i64 0, .int .i64 0] zero46 rfl) ?_
        rintro _ _ ⟨g34125, rfl, rfl⟩
        refine t_as rfl rfl ?_
        refine t_do rfl (u_storeN (vs := [_, _]) 0 2 rfl rfl rfl siz46 rfl (mem_c rfl (mem_c rfl mem_n)) rfl (by simp)) ?_
        rintro _ _ rfl
        refine t_ne ?_
        refine c_seq ?_
        refine c_sr ?_
        refine t_st rfl (st_field rfl fld46_0) ?_
        refine t_st rfl (st_load 0 rfl one3 rfl rfl) ?_
        refine t_mv rfl rfl ?_
        refine t_st rfl (st_neq rfl rfl) ?_
        refine t_ne ?_
        refine c_cond _ rfl (fun hc34126 => ?_) (fun hc34126 => ?_)
        ·
         rw [if_pos (of_decide_eq_true hc34126)] at hm
         refine c_exit ?_
         refine x_then_exit ?_
         refine x_block_out ?_
         refine x_then_normal ?_
         refine c_region ?_
         refine t_st rfl (st_add rfl rfl (by omega)) ?_
         refine t_mv rfl rfl ?_
         refine t_nil ?_
         exact x_againM l34110 (Option.some.inj hm).symm (e' := [(0, .slice A1 (l4).length c2), (1, .int .i64 (x5)), (10, .slice A34107 (l34110).length c34108), (11, .int .i64 ((k30117 : Int))), (54, .int .i64 (x6)), (55, .int .i64 ((k30117 : Int))), (58, .slice A1 (l4).length c2), (59, .int .i64 ((l4.length : Int))), (60, .int .i64 ((k34111 : Int) + 1))]) ⟨rfl, rfl, rfl, rfl, rfl, rfl, rfl, rfl, rfl, trivial⟩ (.cons _ (.refl _)) ⟨A34107, c34108, hs34106, rfl, rfl, (hle34104), h34109⟩
        ·
         rw [if_neg (of_decide_eq_false hc34126)] at hm
         refine c_skip ?_
         refine x_then_normal ?_
         refine c_sr ?_
         refine t_as rfl rfl ?_
         refine t_ne ?_
         obtain ⟨x35105, hj35106, hk35106⟩ := bindS hm
         refine c_join (fun b35103 e' hp' => [(0, .slice A1 (l4).length c2), (1, .int .i64 (x5)), (10, .slice A34107 (l34110).length c34108), (11, .int .i64 ((k30117 : Int))), (12, .int .i64 ((k34111 : Int))), (14, .int .i64 (x35105)), (54, .int .i64 (x6)), (55, .int .i64 ((k30117 : Int))), (58, .slice A1 (l4).length c2), (59, .int .i64 ((l4.length : Int))), (60, .int .i64 ((k34111 : Int)))] = e' ∧ (hs34106 ++ R) = hp' ∧ b34103.Le b35103) ?_ ?_
         ·
          have hm := hj35106
          refine c_sr ?_
          refine t_as rfl rfl ?_
          refine t_ne ?_
          refine c_block ?_
          refine c_loopM (unc2 fun x35758 x35759 => fun b35756 e' hp' => [(0, .slice A1 (l4).length c2), (1, .int .i64 (x5)), (10, .slice A34107 (l34110).length c34108), (11, .int .i64 ((k30117 : Int))), (12, .int .i64 ((k34111 : Int))), (13, .pointer (some ⟨g34125, 0, none⟩)), (14, .int .i64 (x35758)), (15, .int .i64 (x35759)), (54, .int .i64 (x6)), (55, .int .i64 ((k30117 : Int))), (58, .slice A1 (l4).length c2), (59, .int .i64 ((l4.length : Int))), (60, .int .i64 ((k34111 : Int)))] = e' ∧ (g34125, Cl 46 [.int .i64 (x34115.From), .int .i64 (x34115.To)]) :: (hs34106 ++ R) = hp' ∧ b34103.Le b35756) hm (e' := [(0, .slice A1 (l4).length c2), (1, .int .i64 (x5)), (10, .slice A34107 (l34110).length c34108), (11, .int .i64 ((k30117 : Int))), (12, .int .i64 ((k34111 : Int))), (13, .pointer (some ⟨g34125, 0, none⟩)), (14, .int .i64 (0)), (15, .int .i64 (0)), (54, .int .i64 (x6)), (55, .int .i64 ((k30117 : Int))), (58, .slice A1 (l4).length c2), (59, .int .i64 ((l4.length : Int))), (60, .int .i64 ((k34111 : Int)))]) ⟨rfl, rfl, rfl, rfl, rfl, rfl, rfl, rfl, rfl, rfl, rfl, rfl, rfl, trivial⟩ (.refl _) ⟨rfl, rfl, (Base.Le.refl _)⟩ ?_
          rintro ⟨x35758, x35759⟩ b35756 _ _ oL35107 ⟨rfl, rfl, hle35757⟩ hstepL35107 houtL35107
          unfold mFishref2PackOf_L35107 at hstepL35107
          have hm := (unc2E hstepL35107)
          refine c_seq ?_
          refine c_sr ?_
          refine t_mv rfl rfl ?_
          refine t_mv rfl rfl ?_
          refine t_st rfl (st_len rfl sl43) ?_
          refine t_st rfl (st_lss rfl rfl) ?_
          refine t_ne ?_
          refine c_cond _ rfl (fun hc35760 => ?_) (fun hc35760 => ?_)
          ·
           rw [if_pos (of_decide_eq_true hc35760)] at hm
           refine c_skip ?_
           refine x_then_normal ?_
           obtain ⟨⟨x35921, x35922⟩, hj35923, hk35923⟩ := bindS hm
           refine c_join (fun b35919 e' hp' => [(0, .slice A1 (l4).length c2), (1, .int .i64 (x5)), (10, .slice A34107 (l34110).length c34108), (11, .int .i64 ((k30117 : Int))), (12, .int .i64 ((k34111 : Int))), (13, .pointer (some ⟨g34125, 0, none⟩)), (14, .int .i64 (x35921)), (15, .int .i64 (x35922)), (54, .int .i64 (x6)), (55, .int .i64 ((k30117 : Int))), (58, .slice A1 (l4).length c2), (59, .int .i64 ((l4.length : Int))), (60, .int .i64 ((k34111 : Int)))] = e' ∧ (g34125, Cl 46 [.int .i64 (x34115.From), .int .i64 (x34115.To)]) :: (hs34106 ++ R) = hp' ∧ b35756.Le b35919) ?_ ?_
           ·
            have hm := hj35923
            refine c_block ?_
            obtain ⟨x36002, hj36003, hk36003⟩ := bindS hm
            refine c_join (fun b36000 e' hp' => [(0, .slice A1 (l4).length c2), (1, .int .i64 (x5)), (10, .slice A34107 (l34110).length c34108), (11, .int .i64 ((k30117 : Int))), (12, .int .i64 ((k34111 : Int))), (13, .pointer (some ⟨g34125, 0, none⟩)), (14, .int .i64 (x35758)), (15, .int .i64 (x35759)), (54, .int .i64 (x6)), (55, .int .i64 ((k30117 : Int))), (58, .slice A1 (l4).length c2), (59, .int .i64 ((l4.length : Int))), (60, .int .i64 ((k34111 : Int))), (100, .bool (x36002))] = e' ∧ (g34125, Cl 46 [.int .i64 (x34115.From), .int .i64 (x34115.To)]) :: (hs34106 ++ R) = hp' ∧ b35756.Le b36000) ?_ ?_
            ·
             have hm := hj36003
             obtain ⟨x36042, h36043, hm⟩ := bindS hm
             by_cases hc36058 : x36042 = x35758
             ·
              rw [if_pos hc36058] at hm
              obtain ⟨x36059, h36060, hm⟩ := bindS hm
              by_cases hc36069 : x36059.From < x34115.To
              ·
               rw [if_pos hc36069] at hm
               obtain ⟨x36070, h36071, hm⟩ := bindS hm
               refine D_drawI mixed (.refl _) ?_
               refine E_st 0 rfl (st_move rfl) ?_
               refine E_st 1 rfl (st_move rfl) ?_
               obtain ⟨j36044, hj36045, hx36046⟩ := idx_some h36043
               obtain ⟨cs36047, hs36052, P36053, P36054, hq36055, hr36048, hcs36049, hA36050, hlt36051, hb36056, hho36057⟩ := OS.get (sz := 1) rfl (by decide) (h34109.le hle35757) hx36046
               obtain ⟨rfl, rfl⟩ := hr36048
               refine E_st 2 rfl (st_index_old j36044 rfl rfl hj36045 hlt36051 hA36050 sl22) ?_
               refine E_st 3 rfl (st_load_rd rfl one3 (fun w ho => hcs36049 w _ ho (.cons _ (List.sublist_append_left _ _)) 0 _ rfl)) ?_
               refine E_st 4 rfl (st_move rfl) ?_
               refine E_st 5 rfl (st_eql_t rfl rfl hc36058) ?_
               refine E_st 6 rfl (st_move rfl) ?_
               refine E_yes 7 81 rfl (st_move rfl) ?_
               refine E_yes 8 81 rfl (st_move rfl) ?_
               obtain ⟨j36061, hj36062, hx36063⟩ := idx_some h36060
               obtain ⟨cs36064, hr36065, hcs36066, hA36067, hlt36068⟩ := FZ.get (sz := 2) rfl (by decide) (h3.le (hle18067.trans (hle18099.trans (hle30110.trans (hle34104.trans hle35757))))) hx36063
               obtain ⟨_, _, rfl, rfl, rfl⟩ := hr36065
               refine E_yes 9 81 rfl (st_index_old j36061 rfl rfl hj36062 hlt36068 hA36067 sl43) ?_
               refine E_yes 10 81 rfl (st_field_old rfl hA36067 fld46_0) ?_
               refine E_yes 11 81 rfl (st_load_old rfl one3 (hcs36066 0 _ rfl)) ?_
               refine E_yes 12 81 rfl (st_field rfl fld46_1) ?_
               refine E_yes 13 81 rfl (st_load 0 rfl one3 rfl rfl) ?_
               refine E_yes 14 81 rfl (st_lss_t rfl rfl hc36069) ?_
               refine E_st 15 rfl (st_pick_t rfl rfl) ?_
               refine E_st 16 rfl (st_move rfl) ?_
               refine E_yes 17 91 rfl (st_field rfl fld46_0) ?_
               refine E_yes 18 91 rfl (st_load 0 rfl one3 rfl rfl) ?_
               refine E_yes 19 91 rfl (st_move rfl) ?_
               refine E_yes 20 91 rfl (st_move rfl) ?_
               obtain ⟨j36072, hj36073, hx36074⟩ := idx_some h36071
               obtain ⟨cs36075, hr36076, hcs36077, hA36078, hlt36079⟩ := FZ.get (sz := 2) rfl (by decide) (h3.le (hle18067.trans (hle18099.trans (hle30110.trans (hle34104.trans hle35757))))) hx36074
               obtain ⟨_, _, rfl, rfl, rfl⟩ := hr36076
               refine E_yes 21 91 rfl (st_index_old j36072 rfl rfl hj36073 hlt36079 hA36078 sl43) ?_
               refine E_yes 22 91 rfl (st_field_old rfl hA36078 fld46_1) ?_
               refine E_yes 23 91 rfl (st_load_old rfl one3 (hcs36077 1 _ rfl)) ?_
               refine E_yes 24 91 rfl (st_lss rfl rfl) ?_
               refine E_st 25 rfl (st_pick_t rfl rfl) ?_
               refine E_out ?_
               refine D_done (by kernel_rfl) ?_
               obtain rfl := some1 hm
               exact x_join (e' := [(0, .slice A1 (l4).length c2), (1, .int .i64 (x5)), (10, .slice A34107 (l34110).length c34108), (11, .int .i64 ((k30117 : Int))), (12, .int .i64 ((k34111 : Int))), (13, .pointer (some ⟨g34125, 0, none⟩)), (14, .int .i64 (x35758)), (15, .int .i64 (x35759)), (54, .int .i64 (x6)), (55, .int .i64 ((k30117 : Int))), (58, .slice A1 (l4).length c2), (59, .int .i64 ((l4.length : Int))), (60, .int .i64 ((k34111 : Int))), (100, .bool (decide (x34115.From < x36070.To)))]) ⟨rfl, rfl, rfl, rfl, rfl, rfl, rfl, rfl, rfl, rfl, rfl, rfl, rfl, rfl, trivial⟩ (.refl _) ⟨rfl, rfl, (Base.Le.refl _)⟩
              ·
               rw [if_neg hc36069] at hm
               refine D_drawI mixed (.refl _) ?_
               refine E_st 0 rfl (st_move rfl) ?_
               refine E_st 1 rfl (st_move rfl) ?_
               obtain ⟨j36044, hj36045, hx36046⟩ := idx_some h36043
               obtain ⟨cs36047, hs36052, P36053, P36054, hq36055, hr36048, hcs36049, hA36050, hlt36051, hb36056, hho36057⟩ := OS.get (sz := 1) rfl (by decide) (h34109.le hle35757) hx36046
               obtain ⟨rfl, rfl⟩ := hr36048
               refine E_st 2 rfl (st_index_old j36044 rfl rfl hj36045 hlt36051 hA36050 sl22) ?_
               refine E_st 3 rfl (st_load_rd rfl one3 (fun w ho => hcs36049 w _ ho (.cons _ (List.sublist_append_left _ _)) 0 _ rfl)) ?_
               refine E_st 4 rfl (st_move rfl) ?_
               refine E_st 5 rfl (st_eql_t rfl rfl hc36058) ?_
               refine E_st 6 rfl (st_move rfl) ?_
               refine E_yes 7 81 rfl (st_move rfl) ?_
               refine E_yes 8 81 rfl (st_move rfl) ?_
               obtain ⟨j36061, hj36062, hx36063⟩ := idx_some h36060
               obtain ⟨cs36064, hr36065, hcs36066, hA36067, hlt36068⟩ := FZ.get (sz := 2) rfl (by decide) (h3.le (hle18067.trans (hle18099.trans (hle30110.trans (hle34104.trans hle35757))))) hx36063
               obtain ⟨_, _, rfl, rfl, rfl⟩ := hr36065
               refine E_yes 9 81 rfl (st_index_old j36061 rfl rfl hj36062 hlt36068 hA36067 sl43) ?_
               refine E_yes 10 81 rfl (st_field_old rfl hA36067 fld46_0) ?_
               refine E_yes 11 81 rfl (st_load_old rfl one3 (hcs36066 0 _ rfl)) ?_
               refine E_yes 12 81 rfl (st_field rfl fld46_1) ?_
               refine E_yes 13 81 rfl (st_load 0 rfl one3 rfl rfl) ?_
               refine E_yes 14 81 rfl (st_lss_f rfl rfl hc36069) ?_
               refine E_st 15 rfl (st_pick_t rfl rfl) ?_
               refine E_st 16 rfl (st_move rfl) ?_
               refine E_no 17 91 rfl rfl rfl ?_
               refine E_no 18 91 rfl rfl rfl ?_
               refine E_no 19 91 rfl rfl rfl ?_
               refine E_no 20 91 rfl rfl rfl ?_
               refine E_no 21 91 rfl rfl rfl ?_
               refine E_no 22 91 rfl rfl rfl ?_
               refine E_no 23 91 rfl rfl rfl ?_
               refine E_no 24 91 rfl rfl rfl ?_
               refine E_st 25 rfl (st_pick_f rfl rfl) ?_
               refine E_out ?_
               refine D_done (by kernel_rfl) ?_
               obtain rfl := some1 hm
               exact x_join (e' := [(0, .slice A1 (l4).length c2), (1, .int .i64 (x5)), (10, .slice A34107 (l34110).length c34108), (11, .int .i64 ((k30117 : Int))), (12, .int .i64 ((k34111 : Int))), (13, .pointer (some ⟨g34125, 0, none⟩)), (14, .int .i64 (x35758)), (15, .int .i64 (x35759)), (54, .int .i64 (x6)), (55, .int .i64 ((k30117 : Int))), (58, .slice A1 (l4).length c2), (59, .int .i64 ((l4.length : Int))), (60, .int .i64 ((k34111 : Int))), (100, .bool (false))]) ⟨rfl, rfl, rfl, rfl, rfl, rfl, rfl, rfl, rfl, rfl, rfl, rfl, rfl, rfl, trivial⟩ (.refl _) ⟨rfl, rfl, (Base.Le.refl _)⟩
             ·
              rw [if_neg hc36058] at hm
              refine D_drawI mixed (.refl _) ?_
              refine E_st 0 rfl (st_move rfl) ?_
              refine E_st 1 rfl (st_move rfl) ?_
              obtain ⟨j36044, hj36045, hx36046⟩ := idx_some h36043
              obtain ⟨cs36047, hs36052, P36053, P36054, hq36055, hr36048, hcs36049, hA36050, hlt36051, hb36056, hho36057⟩ := OS.get (sz := 1) rfl (by decide) (h34109.le hle35757) hx36046
              obtain ⟨rfl, rfl⟩ := hr36048
              refine E_st 2 rfl (st_index_old j36044 rfl rfl hj36045 hlt36051 hA36050 sl22) ?_
              refine E_st 3 rfl (st_load_rd rfl one3 (fun w ho => hcs36049 w _ ho (.cons _ (List.sublist_append_left _ _)) 0 _ rfl)) ?_
              refine E_st 4 rfl (st_move rfl) ?_
              refine E_st 5 rfl (st_eql_f rfl rfl hc36058) ?_
              refine E_st 6 rfl (st_move rfl) ?_
              refine E_no 7 81 rfl rfl rfl ?_
              refine E_no 8 81 rfl rfl rfl ?_
              refine E_no 9 81 rfl rfl rfl ?_
              refine E_no 10 81 rfl rfl rfl ?_
              refine E_no 11 81 rfl rfl rfl ?_
              refine E_no 12 81 rfl rfl rfl ?_
              refine E_no 13 81 rfl rfl rfl ?_
              refine E_no 14 81 rfl rfl rfl ?_
              refine E_st 15 rfl (st_pick_f rfl rfl) ?_
              refine E_st 16 rfl (st_move rfl) ?_
              refine E_no 17 91 rfl rfl rfl ?_
              refine E_no 18 91 rfl rfl rfl ?_
              refine E_no 19 91 rfl rfl rfl ?_
              refine E_no 20 91 rfl rfl rfl ?_
              refine E_no 21 91 rfl rfl rfl ?_
              refine E_no 22 91 rfl rfl rfl ?_
              refine E_no 23 91 rfl rfl rfl ?_
              refine E_no 24 91 rfl rfl rfl ?_
              refine E_st 25 rfl (st_pick_f rfl rfl) ?_
              refine E_out ?_
              refine D_done (by kernel_rfl) ?_
              obtain rfl := some1 hm
              exact x_join (e' := [(0, .slice A1 (l4).length c2), (1, .int .i64 (x5)), (10, .slice A34107 (l34110).length c34108), (11, .int .i64 ((k30117 : Int))), (12, .int .i64 ((k34111 : Int))), (13, .pointer (some ⟨g34125, 0, none⟩)), (14, .int .i64 (x35758)), (15, .int .i64 (x35759)), (54, .int .i64 (x6)), (55, .int .i64 ((k30117 : Int))), (58, .slice A1 (l4).length c2), (59, .int .i64 ((l4.length : Int))), (60, .int .i64 ((k34111 : Int))), (100, .bool (false))]) ⟨rfl, rfl, rfl, rfl, rfl, rfl, rfl, rfl, rfl, rfl, rfl, rfl, rfl, rfl, trivial⟩ (.refl _) ⟨rfl, rfl, (Base.Le.refl _)⟩
            ·
             rintro b36000 _ _ ⟨rfl, rfl, hle36001⟩
             have hm := hk36003
             refine c_cond _ rfl (fun hc36080 => ?_) (fun hc36080 => ?_)
             ·
              rw [if_pos hc36080] at hm
              refine c_sr ?_
              refine t_mv rfl rfl ?_
              obtain ⟨_, h36081, hm⟩ := bindS hm
              have h36081 := (chk_some h36081).2
              refine t_st rfl (st_add rfl rfl h36081) ?_
              refine t_as rfl rfl ?_
              refine t_ne ?_
              refine c_region ?_
              refine t_as rfl rfl ?_
              refine t_nil ?_
              refine x_block_normal ?_
              obtain ⟨rfl, rfl⟩ := some2 hm
              exact x_join (e' := [(0, .slice A1 (l4).length c2), (1, .int .i64 (x5)), (10, .slice A34107 (l34110).length c34108), (11, .int .i64 ((k30117 : Int))), (12, .int .i64 ((k34111 : Int))), (13, .pointer (some ⟨g34125, 0, none⟩)), (14, .int .i64 (x35758 + 1)), (15, .int .i64 ((-1))), (54, .int .i64 (x6)), (55, .int .i64 ((k30117 : Int))), (58, .slice A1 (l4).length c2), (59, .int .i64 ((l4.length : Int))), (60, .int .i64 ((k34111 : Int)))]) ⟨rfl, rfl, rfl, rfl, rfl, rfl, rfl, rfl, rfl, rfl, rfl, rfl, rfl, trivial⟩ (.refl _) ⟨rfl, rfl, hle36001⟩
             ·
              rw [if_neg (fun hh => Bool.noConfusion (hh.symm.trans hc36080))] at hm
              refine c_skip ?_
              refine x_block_normal ?_
              obtain ⟨rfl, rfl⟩ := some2 hm
              exact x_join (e' := [(0, .slice A1 (l4).length c2), (1, .int .i64 (x5)), (10, .slice A34107 (l34110).length c34108), (11, .int .i64 ((k30117 : Int))), (12, .int .i64 ((k34111 : Int))), (13, .pointer (some ⟨g34125, 0, none⟩)), (14, .int .i64 (x35758)), (15, .int .i64 (x35759)), (54, .int .i64 (x6)), (55, .int .i64 ((k30117 : Int))), (58, .slice A1 (l4).length c2), (59, .int .i64 ((l4.length : Int))), (60, .int .i64 ((k34111 : Int)))]) ⟨rfl, rfl, rfl, rfl, rfl, rfl, rfl, rfl, rfl, rfl, rfl, rfl, rfl, trivial⟩ (.refl _) ⟨rfl, rfl, hle36001⟩
           ·
            rintro b35919 _ _ ⟨rfl, rfl, hle35920⟩
            have hm := (unc2E hk35923)
            refine c_region ?_
            refine t_mv rfl rfl ?_
            obtain ⟨_, h36082, hm⟩ := bindS hm
            have h36082 := (chk_some h36082).2
            refine t_st rfl (st_add rfl rfl h36082) ?_
            refine t_as rfl rfl ?_
            refine t_nil ?_
            exact x_againM (x35921, x35922 + 1) (Option.some.inj hm).symm (e' := [(0, .slice A1 (l4).length c2), (1, .int .i64 (x5)), (10, .slice A34107 (l34110).length c34108), (11, .int .i64 ((k30117 : Int))), (12, .int .i64 ((k34111 : Int))), (13, .pointer (some ⟨g34125, 0, none⟩)), (14, .int .i64 (x35921)), (15, .int .i64 (x35922 + 1)), (54, .int .i64 (x6)), (55, .int .i64 ((k30117 : Int))), (58, .slice A1 (l4).length c2), (59, .int .i64 ((l4.length : Int))), (60, .int .i64 ((k34111 : Int)))]) ⟨rfl, rfl, rfl, rfl, rfl, rfl, rfl, rfl, rfl, rfl, rfl, rfl, rfl, trivial⟩ (.refl _) ⟨rfl, rfl, ((hle35757.trans hle35920))⟩
          ·
           rw [if_neg (of_decide_eq_false hc35760)] at hm
           refine c_exit ?_
           refine x_then_exit ?_
           refine x_then_exit ?_
           refine x_block_out ?_
           have hm := congrArg some (houtL35107 _ (Option.some.inj hm).symm)
           obtain rfl := some1 hm
           exact x_join (e' := [(0, .slice A1 (l4).length c2), (1, .int .i64 (x5)), (10, .slice A34107 (l34110).length c34108), (11, .int .i64 ((k30117 : Int))), (12, .int .i64 ((k34111 : Int))), (14, .int .i64 (x35758)), (54, .int .i64 (x6)), (55, .int .i64 ((k30117 : Int))), (58, .slice A1 (l4).length c2), (59, .int .i64 ((l4.length : Int))), (60, .int .i64 ((k34111 : Int)))]) ⟨rfl, rfl, rfl, rfl, rfl, rfl, rfl, rfl, rfl, rfl, rfl, trivial⟩ (.cons _ (.refl _)) ⟨rfl, rfl, hle35757⟩
         ·
          rintro b35103 _ _ ⟨rfl, rfl, hle35104⟩
          have hm := hk35106
          refine c_seq ?_
          refine c_sr ?_
          refine t_mv rfl rfl ?_
          refine t_mv rfl rfl ?_
          refine t_st rfl (st_geq rfl rfl) ?_
          refine t_ne ?_
          refine c_cond _ rfl (fun hc36083 => ?_) (fun hc36083 => ?_)
          ·
           rw [if_pos (of_decide_eq_true hc36083)] at hm
           refine c_sr ?_
           refine t_as rfl rfl ?_
           refine t_as rfl rfl ?_
           refine t_ne ?_
           refine c_ret ?_
           refine x_then_ret ?_
           refine x_block_ret ?_
           refine x_then_ret ?_
           refine x_then_ret ?_
           refine x_block_ret ?_
           refine x_block_ret ?_
           refine x_then_ret ?_
           refine x_then_ret ?_
           refine x_block_ret ?_
           refine x_then_ret ?_
           have hq36084 := houtL30121 _ (Option.some.inj hm).symm
           rw [hq36084] at hk34114
           have hm := elimR hk34114
           have hq36085 := houtL18137 _ (Option.some.inj hm).symm
           rw [hq36085] at hk30120
           have hm := elimR hk30120
           obtain ⟨rfl, rfl⟩ := some2 hm
           exact retM (rs := [.tmp 6, .tmp 7]) [.slice none 0 0, .int .i64 (14)] (hle18067.trans (hle18099.trans (hle30110.trans (hle34104.trans hle35104)))) (by decide) rfl ⟨rfl, ⟨rfl, trivial⟩⟩ rfl (sub_skip hs34106 (.refl _)) ⟨none, 0, [], rfl, rfl, OS.nil⟩
          ·
           rw [if_neg (of_decide_eq_false hc36083)] at hm
           refine c_skip ?_
           refine x_then_normal ?_
           refine c_region ?_
           refine t_mv rfl rfl ?_
           refine t_mv rfl rfl ?_
           refine t_mv rfl rfl ?_
           obtain ⟨x36086, h36087, hm⟩ := bindS hm
           obtain ⟨j36088, hj36089, hx36090⟩ := idx_some h36087
           obtain ⟨cs36091, hs36096, P36097, P36098, hq36099, hr36092, hcs36093, hA36094, hlt36095, hb36100, hho36101⟩ := OS.get (sz := 1) rfl (by decide) (h34109.le hle35104) hx36090
           obtain ⟨rfl, rfl⟩ := hr36092
           refine t_st rfl (st_index_old j36088 rfl rfl hj36089 hlt36095 hA36094 sl22) ?_
           refine t_do rfl (u_putOS hj36089 (sz := 1) (a' := x35105) rfl [] R 0 1 [.int .i64 (x35105)] rfl (h34109.le hle35104) hx36090 rfl rfl rfl siz3 rfl (mem_c rfl mem_n) (fun cs hsj hh => by obtain ⟨rfl, rfl⟩ := hh; exact ⟨by decide, rfl, rfl⟩)) ?_
           rintro _ _ ⟨hs36102, rfl, h36103⟩
           refine t_resp 10 rfl (v' := .slice A34107 (put l34110 (k34111 : Int) x35105).length c34108) (by simp only [put_length]) ?_
           refine t_nil ?_
           refine x_block_normal ?_
           refine x_then_normal ?_
           refine c_region ?_
           refine t_st rfl (st_add rfl rfl (by omega)) ?_
           refine t_mv rfl rfl ?_
           refine t_nil ?_
           exact x_againM (put l34110 (k34111 : Int) x35105) (Option.some.inj hm).symm (e' := [(0, .slice A1 (l4).length c2), (1, .int .i64 (x5)), (10, .slice A34107 (put l34110 (k34111 : Int) x35105).length c34108), (11, .int .i64 ((k30117 : Int))), (54, .int .i64 (x6)), (55, .int .i64 ((k30117 : Int))), (58, .slice A1 (l4).length c2), (59, .int .i64 ((l4.length : Int))), (60, .int .i64 ((k34111 : Int) + 1))]) ⟨rfl, rfl, rfl, rfl, rfl, rfl, rfl, rfl, rfl, trivial⟩ (.refl _) ⟨A34107, c34108, hs36102, rfl, rfl, ((hle34104.trans hle35104)), h36103⟩
       ·
        rintro l34110 b34103 _ _ ⟨A34107, c34108, hs34106, rfl, rfl, hle34104, h34109⟩ hq36104
        rw [hq36104] at hk34114
        have hm := elimL hk34114
        refine c_sr ?_
        refine t_st rfl (st_lss_f rfl rfl (by omega)) ?_
        refine t_ne ?_
        refine c_seq ?_
        refine c_cond_f rfl ?_
        refine c_exit ?_
        refine x_then_exit ?_
        refine x_then_exit ?_
        refine x_block_out ?_
        refine x_block_normal ?_
        refine x_then_normal ?_
        refine c_region ?_
        refine t_st rfl (st_add rfl rfl (by omega)) ?_
        refine t_mv rfl rfl ?_
        refine t_nil ?_
        exact x_againM l34110 (Option.some.inj hm).symm (e' := [(0, .slice A1 (l4).length c2), (1, .int .i64 (x5)), (10, .slice A34107 (l34110).length c34108), (54, .int .i64 (x6)), (55, .int .i64 ((k30117 : Int) + 1))]) ⟨rfl, rfl, rfl, rfl, rfl, trivial⟩ (.refl _) ⟨A34107, c34108, hs34106, rfl, rfl, ((hle30110.trans hle34104)), h34109⟩
      ·
       rintro l30116 b30109 _ _ ⟨A30113, c30114, hs30112, rfl, rfl, hle30110, h30115⟩ hq36105
       rw [hq36105] at hk30120
       have hm := elimL hk30120
       refine c_sr ?_
       refine t_st rfl (st_lss_f rfl rfl (by omega)) ?_
       refine t_ne ?_
       refine c_seq ?_
       refine c_cond_f rfl ?_
       refine c_exit ?_
       refine x_then_exit ?_
       refine x_then_exit ?_
       refine x_block_out ?_
       refine x_then_normal ?_
       refine c_sr ?_
       refine t_mv rfl rfl ?_
       refine t_as rfl rfl ?_
       refine t_as rfl rfl ?_
       refine t_ne ?_
       refine c_ret ?_
       obtain ⟨rfl, rfl⟩ := some2 hm
       exact retM (rs := [.tmp 6, .tmp 7]) [.slice A30113 (l30116).length c30114, .int .i64 (0)] (hle18067.trans (hle18099.trans hle30110)) (by decide) rfl ⟨rfl, ⟨rfl, trivial⟩⟩ rfl (.refl _) ⟨A30113, c30114, hs30112, rfl, rfl, h30115⟩

set_option maxRecDepth 20000 in
theorem cFareSpan (b : Base) (R : Hp) (x1 : Int) (x2 : Int) (x3 : Int) (x12 : Bool) (hm : mFareSpan x1 x2 x3 = some x12) :
    CallsG Tryz.prog 36 [.int .i64 (x1), .int .i64 (x2), .int .i64 (x3)] b (R) (fun v b' hp' => .bool (x12) = v ∧ R = hp') := by
  refine fn_enterG 19 Tryz.func36 rfl Tryz.ntmps36 rfl ?_
  unfold mFareSpan at hm
  refine c_sr ?_
  refine t_as rfl rfl ?_
  refine t_ne ?_
  obtain ⟨x17, hj18, hk18⟩ := bindS hm
  refine c_join (fun b15 e' hp' => [(6, .bool (x17))] = e' ∧ R = hp' ∧ b.Le b15) ?_ ?_
  ·
   have hm := hj18
   refine c_region ?_
   refine t_mv rfl rfl ?_
   refine t_bool rfl (st_geq rfl rfl) (fun hc19 => ?_) (fun hc19 => ?_)
   ·
    rw [if_pos hc19] at hm
    refine t_mv rfl rfl ?_
    refine t_yes 9 rfl rfl rfl ?_
    refine t_mv rfl rfl ?_
    refine t_yes 9 rfl rfl rfl ?_
    refine t_mv rfl rfl ?_
    refine t_yes 9 rfl rfl rfl ?_
    refine t_bool rfl (st_lss rfl rfl) (fun hc20 => ?_) (fun hc20 => ?_)
    ·
     rw [if_pos hc20] at hm
     refine t_st rfl (st_pick_t rfl rfl) ?_
     refine t_mv rfl rfl ?_
     refine t_yes 14 rfl rfl rfl ?_
     refine t_mv rfl rfl ?_
     refine t_yes 14 rfl rfl rfl ?_
     refine t_mv rfl rfl ?_
     refine t_yes 14 rfl rfl rfl ?_
     refine t_st rfl (st_lss rfl rfl) ?_
     refine t_st rfl (st_pick_t rfl rfl) ?_
     refine t_as rfl rfl ?_
     refine t_nil ?_
     obtain rfl := some1 hm
     exact x_join (e' := [(6, .bool (decide (x2 < x3)))]) ⟨rfl, trivial⟩ (.refl _) ⟨rfl, rfl, (Base.Le.refl _)⟩
    ·
     rw [if_neg hc20] at hm
     refine t_st rfl (st_pick_t rfl rfl) ?_
     refine t_mv rfl rfl ?_
     refine t_no 14 rfl rfl rfl rfl rfl ?_
     refine t_no 14 rfl rfl rfl rfl rfl ?_
     refine t_no 14 rfl rfl rfl rfl rfl ?_
     refine t_st rfl (st_pick_f rfl rfl) ?_
     refine t_as rfl rfl ?_
     refine t_nil ?_
     obtain rfl := some1 hm
     exact x_join (e' := [(6, .bool (false))]) ⟨rfl, trivial⟩ (.refl _) ⟨rfl, rfl, (Base.Le.refl _)⟩
   ·
    rw [if_neg hc19] at hm
    refine t_mv rfl rfl ?_
    refine t_no 9 rfl rfl rfl rfl rfl ?_
    refine t_no 9 rfl rfl rfl rfl rfl ?_
    refine t_no 9 rfl rfl rfl rfl rfl ?_
    refine t_st rfl (st_pick_f rfl rfl) ?_
    refine t_mv rfl rfl ?_
    refine t_no 14 rfl rfl rfl rfl rfl ?_
    refine t_no 14 rfl rfl rfl rfl rfl ?_
    refine t_no 14 rfl rfl rfl rfl rfl ?_
    refine t_st rfl (st_pick_f rfl rfl) ?_
    refine t_as rfl rfl ?_
    refine t_nil ?_
    obtain rfl := some1 hm
    exact x_join (e' := [(6, .bool (false))]) ⟨rfl, trivial⟩ (.refl _) ⟨rfl, rfl, (Base.Le.refl _)⟩
  ·
   rintro b15 _ _ ⟨rfl, rfl, hle16⟩
   have hm := hk18
   refine c_ret ?_
   obtain rfl := some1 hm
   exact retM (rs := [.tmp 6]) [.bool (x17)] hle16 (by decide) rfl ⟨rfl, trivial⟩ rfl (.refl _) ⟨rfl, rfl⟩

set_option maxRecDepth 20000 in
theorem cCmpIsNaN (b : Base) (R : Hp) (x1 : Int) (x2 : Bool) (hm : mCmpIsNaN x1 = some x2) :
    CallsG Tryz.prog 55 [.int .i64 (x1)] b (R) (fun v b' hp' => .bool (x2) = v ∧ R = hp') := by
  refine fn_enterG 6 Tryz.func55 rfl Tryz.ntmps55 rfl ?_
  unfold mCmpIsNaN at hm
  refine c_sr ?_
  refine t_as rfl rfl ?_
  refine t_ne ?_
  refine c_sr ?_
  refine t_mv rfl rfl ?_
  refine t_mv rfl rfl ?_
  refine t_st rfl (st_neq rfl rfl) ?_
  refine t_as rfl rfl ?_
  refine t_ne ?_
  refine c_ret ?_
  obtain rfl := some1 hm
  exact retM (rs := [.tmp 2]) [.bool (decide (x1 ≠ x1))] (Base.Le.refl _) (by decide) rfl ⟨rfl, trivial⟩ rfl (.refl _) ⟨rfl, rfl⟩

set_option maxRecDepth 20000 in
theorem cCmpCompare (b : Base) (R : Hp) (x1 : Int) (x2 : Int) (x12 : Int) (hm : mCmpCompare x1 x2 = some x12) :
    CallsG Tryz.prog 34 [.int .i64 (x1), .int .i64 (x2)] b (R) (fun v b' hp' => .int .i64 (x12) = v ∧ R = hp') := by
  refine fn_enterG 20 Tryz.func34 rfl Tryz.ntmps34 rfl ?_
  unfold mCmpCompare at hm
  refine c_sr ?_
  refine t_as rfl rfl ?_
  refine t_ne ?_
  refine c_sr ?_
  refine t_mv rfl rfl ?_
  obtain ⟨x13, hcl14, hm⟩ := bindS hm
  refine t_do rfl (u_callW0 _ call55 rfl (fun w ho => cCmpIsNaN _ [] x1 x13 hcl14) (fun _ _ _ h => h.2.symm)) ?_
  rintro _ _ ⟨⟨_, rfl, _⟩, rfl⟩
  refine t_as rfl rfl ?_
  refine t_ne ?_
  refine c_sr ?_
  refine t_mv rfl rfl ?_
  obtain ⟨x15, hcl16, hm⟩ := bindS hm
  refine t_do rfl (u_callW0 _ call55 rfl (fun w ho => cCmpIsNaN _ [] x2 x15 hcl16) (fun _ _ _ h => h.2.symm)) ?_
  rintro _ _ ⟨⟨_, rfl, _⟩, rfl⟩
  refine t_as rfl rfl ?_
  refine t_ne ?_
  refine c_seq ?_
  refine c_sr ?_
  refine t_mv rfl rfl ?_
  refine t_ne ?_
  refine c_cond _ rfl (fun hc17 => ?_) (fun hc17 => ?_)
  ·
   rw [if_pos hc17] at hm
   refine c_seq ?_
   refine c_sr ?_
   refine t_mv rfl rfl ?_
   refine t_ne ?_
   refine c_cond _ rfl (fun hc18 => ?_) (fun hc18 => ?_)
   ·
    rw [if_pos hc18] at hm
    refine c_sr ?_
    refine t_as rfl rfl ?_
    refine t_ne ?_
    refine c_ret ?_
    refine x_then_ret ?_
    refine x_then_ret ?_
    obtain rfl := some1 hm
    exact retM (rs := [.tmp 4]) [.int .i64 (0)] (Base.Le.refl _) (by decide) rfl ⟨rfl, trivial⟩ rfl (.refl _) ⟨rfl, rfl⟩
   ·
    rw [if_neg (fun hh => Bool.noConfusion (hh.symm.trans hc18))] at hm
    refine c_skip ?_
    refine x_then_normal ?_
    refine c_sr ?_
    refine t_as rfl rfl ?_
    refine t_ne ?_
    refine c_ret ?_
    refine x_then_ret ?_
    obtain rfl := some1 hm
    exact retM (rs := [.tmp 4]) [.int .i64 ((-1))] (Base.Le.refl _) (by decide) rfl ⟨rfl, trivial⟩ rfl (.refl _) ⟨rfl, rfl⟩
  ·
   rw [if_neg (fun hh => Bool.noConfusion (hh.symm.trans hc17))] at hm
   refine c_skip ?_
   refine x_then_normal ?_
   refine c_seq ?_
   refine c_sr ?_
   refine t_mv rfl rfl ?_
   refine t_ne ?_
   refine c_cond _ rfl (fun hc19 => ?_) (fun hc19 => ?_)
   ·
    rw [if_pos hc19] at hm
    refine c_sr ?_
    refine t_as rfl rfl ?_
    refine t_ne ?_
    refine c_ret ?_
    refine x_then_ret ?_
    obtain rfl := some1 hm
    exact retM (rs := [.tmp 4]) [.int .i64 (1)] (Base.Le.refl _) (by decide) rfl ⟨rfl, trivial⟩ rfl (.refl _) ⟨rfl, rfl⟩
   ·
    rw [if_neg (fun hh => Bool.noConfusion (hh.symm.trans hc19))] at hm
    refine c_skip ?_
    refine x_then_normal ?_
    refine c_seq ?_
    refine c_sr ?_
    refine t_mv rfl rfl ?_
    refine t_mv rfl rfl ?_
    refine t_st rfl (st_lss rfl rfl) ?_
    refine t_ne ?_
    refine c_cond _ rfl (fun hc20 => ?_) (fun hc20 => ?_)
    ·
     rw [if_pos (of_decide_eq_true hc20)] at hm
     refine c_sr ?_
     refine t_as rfl rfl ?_
     refine t_ne ?_
     refine c_ret ?_
     refine x_then_ret ?_
     obtain rfl := some1 hm
     exact retM (rs := [.tmp 4]) [.int .i64 ((-1))] (Base.Le.refl _) (by decide) rfl ⟨rfl, trivial⟩ rfl (.refl _) ⟨rfl, rfl⟩
    ·
     rw [if_neg (of_decide_eq_false hc20)] at hm
     refine c_skip ?_
     refine x_then_normal ?_
     refine c_seq ?_
     refine c_sr ?_
     refine t_mv rfl rfl ?_
     refine t_mv rfl rfl ?_
     refine t_st rfl (st_gtr rfl rfl) ?_
     refine t_ne ?_
     refine c_cond _ rfl (fun hc21 => ?_) (fun hc21 => ?_)
     ·
      rw [if_pos (of_decide_eq_true hc21)] at hm
      refine c_sr ?_
      refine t_as rfl rfl ?_
      refine t_ne ?_
      refine c_ret ?_
      refine x_then_ret ?_
      obtain rfl := some1 hm
      exact retM (rs := [.tmp 4]) [.int .i64 (1)] (Base.Le.refl _) (by decide) rfl ⟨rfl, trivial⟩ rfl (.refl _) ⟨rfl, rfl⟩
     ·
      rw [if_neg (of_decide_eq_false hc21)] at hm
      refine c_skip ?_
      refine x_then_normal ?_
      refine c_sr ?_
      refine t_as rfl rfl ?_
      refine t_ne ?_
      refine c_ret ?_
      obtain rfl := some1 hm
      exact retM (rs := [.tmp 4]) [.int .i64 (0)] (Base.Le.refl _) (by decide) rfl ⟨rfl, trivial⟩ rfl (.refl _) ⟨rfl, rfl⟩

set_option maxRecDepth 20000 in
theorem cFarePack_1 (b : Base) (R : Hp) (x2 : Int) (x3 : Int) (l7 : (List FareSpan)) (g1 : Nat) (A4 : Option Addr) (c5 : Nat) (h6 : FZ rFareSpan b.w A4 c5 l7) (x52 : Int) (hm : mFarePack_1 x2 x3 l7 = some x52) :
    CallsG Tryz.prog 37 [.int .i64 (x2), .int .i64 (x3), .pointer (some ⟨g1, 0, none⟩)] b ((g1, Cl 43 [.slice A4 (l7).length c5]) :: R) (fun v b' hp' => .int .i64 (x52) = v ∧ (g1, Cl 43 [.slice A4 (l7).length c5]) :: R = hp') := by
  refine fn_enterG 17 Tryz.func37 rfl Tryz.ntmps37 rfl ?_
  unfold mFarePack_1 at hm
  refine c_sr ?_
  refine t_as rfl rfl ?_
  refine t_ne ?_
  refine c_seq ?_
  obtain ⟨x75, h76, hm⟩ := bindS hm
  obtain ⟨x85, h86, hm⟩ := bindS hm
  obtain ⟨x95, hcl96, hm⟩ := bindS hm
  refine D_drawI mixed (.refl _) ?_
  refine E_st 0 rfl (st_load 0 rfl one43 rfl rfl) ?_
  refine E_st 1 rfl (st_move rfl) ?_
  obtain ⟨j77, hj78, hx79⟩ := idx_some h76
  obtain ⟨cs80, hr81, hcs82, hA83, hlt84⟩ := FZ.get (sz := 2) rfl (by decide) h6 hx79
  obtain ⟨_, _, rfl, rfl, rfl⟩ := hr81
  refine E_st 2 rfl (st_index_old j77 rfl rfl hj78 hlt84 hA83 sl43) ?_
  refine E_st 3 rfl (st_field_old rfl hA83 fld46_0) ?_
  refine E_st 4 rfl (st_load_old rfl one3 (hcs82 0 _ rfl)) ?_
  refine E_st 5 rfl (st_load 0 rfl one43 rfl rfl) ?_
  refine E_st 6 rfl (st_move rfl) ?_
  obtain ⟨j87, hj88, hx89⟩ := idx_some h86
  obtain ⟨cs90, hr91, hcs92, hA93, hlt94⟩ := FZ.get (sz := 2) rfl (by decide) h6 hx89
  obtain ⟨_, _, rfl, rfl, rfl⟩ := hr91
  refine E_st 7 rfl (st_index_old j87 rfl rfl hj88 hlt94 hA93 sl43) ?_
  refine E_st 8 rfl (st_field_old rfl hA93 fld46_0) ?_
  refine E_st 9 rfl (st_load_old rfl one3 (hcs92 0 _ rfl)) ?_
  refine E_out ?_
  refine D_all [10] (by kernel_rfl) rfl ?_
  refine R_do (Base.Le.refl _) rfl rfl (u_callW0 _ call34 rfl (fun w ho => cCmpCompare _ [] x75.From x85.From x95 hcl96) (fun _ _ _ h => h.2.symm)) ?_ ?_
  ·
   rintro _ _ ⟨⟨_, rfl, _⟩, rfl⟩
   refine ⟨.inr (.refl _), ?_⟩
   refine E_in (.refl _) ?_
   refine E_st 11 rfl (st_assign rfl) ?_
   refine E_out ?_
   refine D_done (by kernel_rfl) ?_
   refine x_then_normal ?_
   refine c_ret ?_
   obtain rfl := some1 hm
   exact retM (rs := [.tmp 5]) [.int .i64 (x95)] (Base.Le.refl _) (by decide) rfl ⟨rfl, trivial⟩ rfl (.refl _) ⟨rfl, rfl⟩
  exact R_nil

set_option maxRecDepth 20000 in
theorem cSlicesInsertionSortCmpFunc (b : Base) (R : Hp) (x7 : Int) (x8 : Int) (l12 : (List FareSpan)) (l13 : (List Int)) (g6 : Nat) (A9 : Option Addr) (c10 : Nat) (A3 : Option Addr) (c4 : Nat) (hs2 : Hp) (h11 : FZ rFareSpan b.w A9 c10 l12) (h5 : OS 3 (OT.fr (RT.int .i64)) b.w (.slice A3 l13.length c4) l13 hs2) (l5535 : (List Int)) (hm : mSlicesInsertionSortCmpFunc x7 x8 l12 l13 = some l5535) :
    CallsG Tryz.prog 72 [.slice A3 (l13).length c4, .int .i64 (x7), .int .i64 (x8), .func (.func 37) #[] #[.pointer (some ⟨g6, 0, none⟩)]] b ((g6, Cl 43 [.slice A9 (l12).length c10]) :: (hs2 ++ R)) (fun v b' hp' => ∃ (hs5533 : Hp), .tuple #[] = v ∧ (g6, Cl 43 [.slice A9 (l12).length c10]) :: (hs5533 ++ R) = hp' ∧ OS 3 (OT.fr (RT.int .i64)) b'.w (.slice A3 l5535.length c4) l5535 hs5533 ∧ l5535.length = l13.length) := by
  refine fn_enterG 53 Tryz.func72 rfl Tryz.ntmps72 rfl ?_
  unfold mSlicesInsertionSortCmpFunc at hm
  refine c_sr ?_
  refine t_mv rfl rfl ?_
  obtain ⟨_, h5537, hm⟩ := bindS hm
  have h5537 := (chk_some h5537).2
  refine t_st rfl (st_add rfl rfl h5537) ?_
  refine t_as rfl rfl ?_
  refine t_ne ?_
  refine c_block ?_
  refine c_loopM (unc2 fun x9218 l9219 => fun b9213 e' hp' => ∃ (hs9216 : Hp), [(0, .slice A3 (l9219).length c4), (1, .int .i64 (x7)), (2, .int .i64 (x8)), (3, .func (.func 37) #[] #[.pointer (some ⟨g6, 0, none⟩)]), (8, .int .i64 (x9218))] = e' ∧ (g6, Cl 43 [.slice A9 (l12).length c10]) :: (hs9216 ++ R) = hp' ∧ b.Le b9213 ∧ OS 3 (OT.fr (RT.int .i64)) b9213.w (.slice A3 l9219.length c4) l9219 hs9216 ∧ l9219.length = l13.length) hm (e' := [(0, .slice A3 (l13).length c4), (1, .int .i64 (x7)), (2, .int .i64 (x8)), (3, .func (.func 37) #[] #[.pointer (some ⟨g6, 0, none⟩)]), (8, .int .i64 (x7 + 1))]) ⟨rfl, rfl, rfl, rfl, rfl, trivial⟩ (.refl _) ⟨hs2, rfl, rfl, (Base.Le.refl _), h5, rfl⟩ ?_
  rintro ⟨x9218, l9219⟩ b9213 _ _ oL5538 ⟨hs9216, rfl, rfl, hle9214, h9217, hln9220⟩ hstepL5538 houtL5538
  unfold mSlicesInsertionSortCmpFunc_L5538 at hstepL5538
  have hm := (unc2E hstepL5538)
  refine c_seq ?_
  refine c_sr ?_
  refine t_mv rfl rfl ?_
  refine t_mv rfl rfl ?_
  refine t_st rfl (st_lss rfl rfl) ?_
  refine t_ne ?_
  refine c_cond _ rfl (fun hc9221 => ?_) (fun hc9221 => ?_)
  ·
   rw [if_pos (of_decide_eq_true hc9221)] at hm
   refine c_skip ?_
   refine x_then_normal ?_
   obtain ⟨l10139, hj10141, hk10141⟩ := bindS hm
   refine c_join (fun b10134 e' hp' => ∃ (hs10137 : Hp), [(0, .slice A3 (l10139).length c4), (1, .int .i64 (x7)), (2, .int .i64 (x8)), (3, .func (.func 37) #[] #[.pointer (some ⟨g6, 0, none⟩)]), (8, .int .i64 (x9218))] = e' ∧ (g6, Cl 43 [.slice A9 (l12).length c10]) :: (hs10137 ++ R) = hp' ∧ b9213.Le b10134 ∧ OS 3 (OT.fr (RT.int .i64)) b10134.w (.slice A3 l10139.length c4) l10139 hs10137 ∧ l10139.length = l13.length) ?_ ?_
   ·
    have hm := hj10141
    refine c_block ?_
    refine c_sr ?_
    refine t_mv rfl rfl ?_
    refine t_as rfl rfl ?_
    refine t_ne ?_
    refine c_block ?_
    refine c_loopM (unc2 fun x10752 l10753 => fun b10747 e' hp' => ∃ (hs10750 : Hp), [(0, .slice A3 (l10753).length c4), (1, .int .i64 (x7)), (2, .int .i64 (x8)), (3, .func (.func 37) #[] #[.pointer (some ⟨g6, 0, none⟩)]), (8, .int .i64 (x9218)), (9, .int .i64 (x10752))] = e' ∧ (g6, Cl 43 [.slice A9 (l12).length c10]) :: (hs10750 ++ R) = hp' ∧ b9213.Le b10747 ∧ OS 3 (OT.fr (RT.int .i64)) b10747.w (.slice A3 l10753.length c4) l10753 hs10750 ∧ l10753.length = l13.length) hm (e' := [(0, .slice A3 (l9219).length c4), (1, .int .i64 (x7)), (2, .int .i64 (x8)), (3, .func (.func 37) #[] #[.pointer (some ⟨g6, 0, none⟩)]), (8, .int .i64 (x9218)), (9, .int .i64 (x9218))]) ⟨rfl, rfl, rfl, rfl, rfl, rfl, trivial⟩ (.refl _) ⟨hs9216, rfl, rfl, (Base.Le.refl _), h9217, hln9220⟩ ?_
    rintro ⟨x10752, l10753⟩ b10747 _ _ oL10142 ⟨hs10750, rfl, rfl, hle10748, h10751, hln10754⟩ hstepL10142 houtL10142
    unfold mSlicesInsertionSortCmpFunc_L10142 at hstepL10142
    have hm := (unc2E hstepL10142)
    refine c_seq ?_
    obtain ⟨x10833, hj10834, hk10834⟩ := bindS hm
    refine c_join (fun b10831 e' hp' => [(0, .slice A3 (l10753).length c4), (1, .int .i64 (x7)), (2, .int .i64 (x8)), (3, .func (.func 37) #[] #[.pointer (some ⟨g6, 0, none⟩)]), (8, .int .i64 (x9218)), (9, .int .i64 (x10752)), (34, .bool (x10833))] = e' ∧ (g6, Cl 43 [.slice A9 (l12).length c10]) :: (hs10750 ++ R) = hp' ∧ b10747.Le b10831) ?_ ?_
    ·
     have hm := hj10834
     by_cases hc10873 : x7 < x10752
     ·
      rw [if_pos hc10873] at hm
      obtain ⟨x10874, h10875, hm⟩ := bindS hm
      obtain ⟨_, h10890, hm⟩ := bindS hm
      obtain ⟨x10891, h10892, hm⟩ := bindS hm
      obtain ⟨x10907, hcl10908, hm⟩ := bindS hm
      refine D_drawI mixed (.cons _ (.refl _)) ?_
      refine E_st 0 rfl (st_move rfl) ?_
      refine E_st 1 rfl (st_move rfl) ?_
      refine E_st 2 rfl (st_gtr_t rfl rfl hc10873) ?_
      refine E_st 3 rfl (st_move rfl) ?_
      refine E_yes 4 21 rfl (st_move rfl) ?_
      refine E_yes 5 21 rfl (st_move rfl) ?_
      refine E_yes 6 21 rfl (st_move rfl) ?_
      obtain ⟨j10876, hj10877, hx10878⟩ := idx_some h10875
      obtain ⟨cs10879, hs10884, P10885, P10886, hq10887, hr10880, hcs10881, hA10882, hlt10883, hb10888, hho10889⟩ := OS.get (sz := 1) rfl (by decide) h10751 hx10878
      obtain ⟨rfl, rfl⟩ := hr10880
      refine E_yes 7 21 rfl (st_index_old j10876 rfl rfl hj10877 hlt10883 hA10882 sl22) ?_
      refine E_yes 8 21 rfl (st_load_rd rfl one3 (fun w ho => hcs10881 w _ ho (List.sublist_append_left _ _) 0 _ rfl)) ?_
      refine E_yes 9 21 rfl (st_move rfl) ?_
      refine E_yes 10 21 rfl (st_move rfl) ?_
      have h10890 := (chk_some h10890).2
      refine E_yes 11 21 rfl (st_sub rfl rfl h10890) ?_
      obtain ⟨j10893, hj10894, hx10895⟩ := idx_some h10892
      obtain ⟨cs10896, hs10901, P10902, P10903, hq10904, hr10897, hcs10898, hA10899, hlt10900, hb10905, hho10906⟩ := OS.get (sz := 1) rfl (by decide) h10751 hx10895
      obtain ⟨rfl, rfl⟩ := hr10897
      refine E_yes 12 21 rfl (st_index_old j10893 rfl rfl hj10894 hlt10900 hA10899 sl22) ?_
      refine E_yes 13 21 rfl (st_load_rd rfl one3 (fun w ho => hcs10898 w _ ho (List.sublist_append_left _ _) 0 _ rfl)) ?_
      refine E_out ?_
      refine D_all [14] (by kernel_rfl) rfl ?_
      refine R_callvGY (Base.Le.refl _) rfl rfl 21 rfl rfl rfl #[] #[.pointer (some ⟨g6, 0, none⟩)] [.int .i64 (x10874), .int .i64 (x10891)] rfl call37 rfl (cFarePack_1 _ _ x10874 x10891 l12 g6 A9 c10 (h11.le (hle9214.trans hle10748)) x10907 hcl10908) ?_ ?_
      ·
       rintro _ b10909 _ hle10910 ⟨rfl, rfl⟩
       refine ⟨.inr (.cons _ (.refl _)), ?_⟩
       refine D_yes hle10910 15 21 rfl (by kernel_rfl) (by kernel_rfl) (by kernel_rfl) rfl rfl rfl rfl (st_lss rfl rfl) (.cons _ (.refl _)) ?_
       refine D_st hle10910 16 rfl (by kernel_rfl) (by kernel_rfl) (by kernel_rfl) rfl (st_pick_t rfl rfl) (.cons _ (.refl _)) ?_
       refine D_done (by kernel_rfl) ?_
       obtain rfl := some1 hm
       exact x_join (e' := [(0, .slice A3 (l10753).length c4), (1, .int .i64 (x7)), (2, .int .i64 (x8)), (3, .func (.func 37) #[] #[.pointer (some ⟨g6, 0, none⟩)]), (8, .int .i64 (x9218)), (9, .int .i64 (x10752)), (34, .bool (decide (x10907 < 0)))]) ⟨rfl, rfl, rfl, rfl, rfl, rfl, rfl, trivial⟩ (.refl _) ⟨rfl, rfl, hle10910⟩
      exact R_nil
     ·
      rw [if_neg hc10873] at hm
      refine D_drawI mixed (.refl _) ?_
      refine E_st 0 rfl (st_move rfl) ?_
      refine E_st 1 rfl (st_move rfl) ?_
      refine E_st 2 rfl (st_gtr_f rfl rfl hc10873) ?_
      refine E_st 3 rfl (st_move rfl) ?_
      refine E_no 4 21 rfl rfl rfl ?_
      refine E_no 5 21 rfl rfl rfl ?_
      refine E_no 6 21 rfl rfl rfl ?_
      refine E_no 7 21 rfl rfl rfl ?_
      refine E_no 8 21 rfl rfl rfl ?_
      refine E_no 9 21 rfl rfl rfl ?_
      refine E_no 10 21 rfl rfl rfl ?_
      refine E_no 11 21 rfl rfl rfl ?_
      refine E_no 12 21 rfl rfl rfl ?_
      refine E_no 13 21 rfl rfl rfl ?_
      refine E_no 14 21 rfl rfl rfl ?_
      refine E_no 15 21 rfl rfl rfl ?_
      refine E_st 16 rfl (st_pick_f rfl rfl) ?_
      refine E_out ?_
      refine D_done (by kernel_rfl) ?_
      obtain rfl := some1 hm
      exact x_join (e' := [(0, .slice A3 (l10753).length c4), (1, .int .i64 (x7)), (2, .int .i64 (x8)), (3, .func (.func 37) #[] #[.pointer (some ⟨g6, 0, none⟩)]), (8, .int .i64 (x9218)), (9, .int .i64 (x10752)), (34, .bool (false))]) ⟨rfl, rfl, rfl, rfl, rfl, rfl, rfl, trivial⟩ (.refl _) ⟨rfl, rfl, (Base.Le.refl _)⟩
    ·
     rintro b10831 _ _ ⟨rfl, rfl, hle10832⟩
     have hm := hk10834
     refine c_cond _ rfl (fun hc10911 => ?_) (fun hc10911 => ?_)
     ·
      rw [if_pos hc10911] at hm
      refine c_skip ?_
      refine x_then_normal ?_
      refine c_seq ?_
      refine c_block ?_
      obtain ⟨_, h10982, hm⟩ := bindS hm
      obtain ⟨_, h10983, hm⟩ := bindS hm
      obtain ⟨x10984, h10985, hm⟩ := bindS hm
      obtain ⟨x11000, h11001, hm⟩ := bindS hm
      obtain ⟨x11016, h11017, hm⟩ := bindS hm
      obtain ⟨x11034, h11035, hm⟩ := bindS hm
      refine D_drawI mixed (.cons_cons _ (sub_skip hs10750 (.refl _))) ?_
      refine E_st 0 rfl (st_move rfl) ?_
      refine E_st 1 rfl (st_move rfl) ?_
      refine E_st 2 rfl (st_move rfl) ?_
      refine E_st 3 rfl (st_move rfl) ?_
      have h10982 := (chk_some h10982).2
      refine E_st 4 rfl (st_sub rfl rfl h10982) ?_
      refine E_st 5 rfl (st_move rfl) ?_
      refine E_st 6 rfl (st_move rfl) ?_
      have h10983 := (chk_some h10983).2
      refine E_st 7 rfl (st_sub rfl rfl h10983) ?_
      obtain ⟨j10986, hj10987, hx10988⟩ := idx_some h10985
      obtain ⟨cs10989, hs10994, P10995, P10996, hq10997, hr10990, hcs10991, hA10992, hlt10993, hb10998, hho10999⟩ := OS.get (sz := 1) rfl (by decide) (h10751.le hle10832) hx10988
      obtain ⟨rfl, rfl⟩ := hr10990
      refine E_st 8 rfl (st_index_old j10986 rfl rfl hj10987 hlt10993 hA10992 sl22) ?_
      refine E_st 10 rfl (st_move rfl) ?_
      refine E_st 11 rfl (st_move rfl) ?_
      obtain ⟨j11002, hj11003, hx11004⟩ := idx_some h11001
      obtain ⟨cs11005, hs11010, P11011, P11012, hq11013, hr11006, hcs11007, hA11008, hlt11009, hb11014, hho11015⟩ := OS.get (sz := 1) rfl (by decide) (h10751.le hle10832) hx11004
      obtain ⟨rfl, rfl⟩ := hr11006
      refine E_st 12 rfl (st_index_old j11002 rfl rfl hj11003 hlt11009 hA11008 sl22) ?_
      refine E_out ?_
      refine D_all [9, 13] (by kernel_rfl) rfl ?_
      refine R_do (Base.Le.refl _) rfl rfl (Stable.does (st_load_rd rfl one3 (fun w ho => hcs10991 w _ ho (.cons _ (List.sublist_append_left _ _)) 0 _ rfl))) ?_ ?_
      ·
       rintro _ _ ⟨rfl, rfl⟩
       refine ⟨.inr (.cons_cons _ (sub_skip hs10750 (.refl _))), ?_⟩
       refine D_all [13] (by kernel_rfl) rfl ?_
       refine R_do (Base.Le.refl _) rfl rfl (Stable.does (st_load_rd rfl one3 (fun w ho => hcs11007 w _ ho (.cons _ (List.sublist_append_left _ _)) 0 _ rfl))) ?_ ?_
       ·
        rintro _ _ ⟨rfl, rfl⟩
        refine ⟨.inr (.cons_cons _ (sub_skip hs10750 (.refl _))), ?_⟩
        obtain ⟨j11018, hj11019, hx11020⟩ := idx_some h11017
        obtain ⟨cs11021, hs11026, P11027, P11028, hq11029, hr11022, hcs11023, hA11024, hlt11025, hb11030, hho11031⟩ := OS.get (sz := 1) rfl (by decide) (h10751.le hle10832) hx11020
        obtain ⟨rfl, rfl⟩ := hr11022
        refine E_in (.cons_cons _ (sub_skip hs10750 (.refl _))) ?_
        refine E_st 14 rfl (st_index_old j11018 rfl rfl hj11019 hlt11025 hA11024 sl22) ?_
        refine E_out ?_
        refine D_all [15] (by kernel_rfl) rfl ?_
        refine R_do (Base.Le.refl _) rfl rfl (u_putOS hj11019 (sz := 1) (a' := x10984) rfl [_] R 0 1 [.int .i64 (x10984)] rfl (h10751.le hle10832) hx11020 rfl rfl rfl siz3 rfl (mem_c rfl mem_n) (fun cs hsj hh => by obtain ⟨rfl, rfl⟩ := hh; exact ⟨by decide, rfl, rfl⟩)) ?_ ?_
        ·
         rintro _ _ ⟨hs11032, rfl, h11033⟩
         refine ⟨.inr (.cons_cons _ (sub_skip hs11032 (.refl _))), ?_⟩
         refine d_resp 0 rfl (v' := .slice A3 (put l10753 x10752 x10984).length c4) (by simp only [put_length]) ?_
         refine d_resp 39 rfl (v' := .slice A3 (put l10753 x10752 x10984).length c4) (by simp only [put_length]) ?_
         obtain ⟨j11036, hj11037, hx11038⟩ := idx_some h11035
         obtain ⟨cs11039, hs11044, P11045, P11046, hq11047, hr11040, hcs11041, hA11042, hlt11043, hb11048, hho11049⟩ := OS.get (sz := 1) rfl (by decide) h11033 hx11038
         obtain ⟨rfl, rfl⟩ := hr11040
         refine E_in (.cons_cons _ (sub_skip hs11032 (.refl _))) ?_
         refine E_st 16 rfl (st_index_old j11036 rfl rfl hj11037 hlt11043 hA11042 sl22) ?_
         refine E_out ?_
         refine D_all [17] (by kernel_rfl) rfl ?_
         refine R_do (Base.Le.refl _) rfl rfl (u_putOS hj11037 (sz := 1) (a' := x11000) rfl [_] R 0 1 [.int .i64 (x11000)] rfl h11033 hx11038 rfl rfl rfl siz3 rfl (mem_c rfl mem_n) (fun cs hsj hh => by obtain ⟨rfl, rfl⟩ := hh; exact ⟨by decide, rfl, rfl⟩)) ?_ ?_
         ·
          rintro _ _ ⟨hs11050, rfl, h11051⟩
          refine ⟨.inl (by kernel_rfl), ?_⟩
          refine d_resp 0 rfl (v' := .slice A3 (put (put l10753 x10752 x10984) (x10752 - 1) x11000).length c4) (by simp only [put_length]) ?_
          refine D_done (by kernel_rfl) ?_
          refine x_block_normal ?_
          refine x_then_normal ?_
          refine c_region ?_
          refine t_mv rfl rfl ?_
          obtain ⟨_, h11052, hm⟩ := bindS hm
          have h11052 := (chk_some h11052).2
          refine t_st rfl (st_sub rfl rfl h11052) ?_
          refine t_as rfl rfl ?_
          refine t_nil ?_
          exact x_againM (x10752 - 1, put (put l10753 x10752 x10984) (x10752 - 1) x11000) (Option.some.inj hm).symm (e' := [(0, .slice A3 (put (put l10753 x10752 x10984) (x10752 - 1) x11000).length c4), (1, .int .i64 (x7)), (2, .int .i64 (x8)), (3, .func (.func 37) #[] #[.pointer (some ⟨g6, 0, none⟩)]), (8, .int .i64 (x9218)), (9, .int .i64 (x10752 - 1))]) ⟨rfl, rfl, rfl, rfl, rfl, rfl, trivial⟩ (.refl _) ⟨hs11050, rfl, rfl, ((hle10748.trans hle10832)), h11051, ((put_length _ _ _).trans ((put_length _ _ _).trans hln10754))⟩
         exact R_nil
        exact R_nil
       exact R_nil
      refine R_do (Base.Le.refl _) rfl rfl (Stable.does (st_load_rd rfl one3 (fun w ho => hcs11007 w _ ho (.cons _ (List.sublist_append_left _ _)) 0 _ rfl))) ?_ ?_
      ·
       rintro _ _ ⟨rfl, rfl⟩
       refine ⟨.inr (.cons_cons _ (sub_skip hs10750 (.refl _))), ?_⟩
       refine D_all [9] (by kernel_rfl) rfl ?_
       refine R_do (Base.Le.refl _) rfl rfl (Stable.does (st_load_rd rfl one3 (fun w ho => hcs10991 w _ ho (.cons _ (List.sublist_append_left _ _)) 0 _ rfl))) ?_ ?_
       ·
        rintro _ _ ⟨rfl, rfl⟩
        refine ⟨.inr (.cons_cons _ (sub_skip hs10750 (.refl _))), ?_⟩
        obtain ⟨j11018, hj11019, hx11020⟩ := idx_some h11017
        obtain ⟨cs11021, hs11026, P11027, P11028, hq11029, hr11022, hcs11023, hA11024, hlt11025, hb11030, hho11031⟩ := OS.get (sz := 1) rfl (by decide) (h10751.le hle10832) hx11020
        obtain ⟨rfl, rfl⟩ := hr11022
        refine E_in (.cons_cons _ (sub_skip hs10750 (.refl _))) ?_
        refine E_st 14 rfl (st_index_old j11018 rfl rfl hj11019 hlt11025 hA11024 sl22) ?_
        refine E_out ?_
        refine D_all [15] (by kernel_rfl) rfl ?_
        refine R_do (Base.Le.refl _) rfl rfl (u_putOS hj11019 (sz := 1) (a' := x10984) rfl [_] R 0 1 [.int .i64 (x10984)] rfl (h10751.le hle10832) hx11020 rfl rfl rfl siz3 rfl (mem_c rfl mem_n) (fun cs hsj hh => by obtain ⟨rfl, rfl⟩ := hh; exact ⟨by decide, rfl, rfl⟩)) ?_ ?_
        ·
         rintro _ _ ⟨hs11032, rfl, h11033⟩
         refine ⟨.inr (.cons_cons _ (sub_skip hs11032 (.refl _))), ?_⟩
         refine d_resp 0 rfl (v' := .slice A3 (put l10753 x10752 x10984).length c4) (by simp only [put_length]) ?_
         refine d_resp 39 rfl (v' := .slice A3 (put l10753 x10752 x10984).length c4) (by simp only [put_length]) ?_
         obtain ⟨j11036, hj11037, hx11038⟩ := idx_some h11035
         obtain ⟨cs11039, hs11044, P11045, P11046, hq11047, hr11040, hcs11041, hA11042, hlt11043, hb11048, hho11049⟩ := OS.get (sz := 1) rfl (by decide) h11033 hx11038
         obtain ⟨rfl, rfl⟩ := hr11040
         refine E_in (.cons_cons _ (sub_skip hs11032 (.refl _))) ?_
         refine E_st 16 rfl (st_index_old j11036 rfl rfl hj11037 hlt11043 hA11042 sl22) ?_
         refine E_out ?_
         refine D_all [17] (by kernel_rfl) rfl ?_
         refine R_do (Base.Le.refl _) rfl rfl (u_putOS hj11037 (sz := 1) (a' := x11000) rfl [_] R 0 1 [.int .i64 (x11000)] rfl h11033 hx11038 rfl rfl rfl siz3 rfl (mem_c rfl mem_n) (fun cs hsj hh => by obtain ⟨rfl, rfl⟩ := hh; exact ⟨by decide, rfl, rfl⟩)) ?_ ?_
         ·
          rintro _ _ ⟨hs11050, rfl, h11051⟩
          refine ⟨.inl (by kernel_rfl), ?_⟩
          refine d_resp 0 rfl (v' := .slice A3 (put (put l10753 x10752 x10984) (x10752 - 1) x11000).length c4) (by simp only [put_length]) ?_
          refine D_done (by kernel_rfl) ?_
          refine x_block_normal ?_
          refine x_then_normal ?_
          refine c_region ?_
          refine t_mv rfl rfl ?_
          obtain ⟨_, h11053, hm⟩ := bindS hm
          have h11053 := (chk_some h11053).2
          refine t_st rfl (st_sub rfl rfl h11053) ?_
          refine t_as rfl rfl ?_
          refine t_nil ?_
          exact x_againM (x10752 - 1, put (put l10753 x10752 x10984) (x10752 - 1) x11000) (Option.some.inj hm).symm (e' := [(0, .slice A3 (put (put l10753 x10752 x10984) (x10752 - 1) x11000).length c4), (1, .int .i64 (x7)), (2, .int .i64 (x8)), (3, .func (.func 37) #[] #[.pointer (some ⟨g6, 0, none⟩)]), (8, .int .i64 (x9218)), (9, .int .i64 (x10752 - 1))]) ⟨rfl, rfl, rfl, rfl, rfl, rfl, trivial⟩ (.refl _) ⟨hs11050, rfl, rfl, ((hle10748.trans hle10832)), h11051, ((put_length _ _ _).trans ((put_length _ _ _).trans hln10754))⟩
         exact R_nil
        exact R_nil
       exact R_nil
      exact R_nil
     ·
      rw [if_neg (fun hh => Bool.noConfusion (hh.symm.trans hc10911))] at hm
      refine c_exit ?_
      refine x_then_exit ?_
      refine x_then_exit ?_
      refine x_block_out ?_
      have hm := congrArg some (houtL10142 _ (Option.some.inj hm).symm)
      refine x_block_normal ?_
      obtain rfl := some1 hm
      exact x_join (e' := [(0, .slice A3 (l10753).length c4), (1, .int .i64 (x7)), (2, .int .i64 (x8)), (3, .func (.func 37) #[] #[.pointer (some ⟨g6, 0, none⟩)]), (8, .int .i64 (x9218))]) ⟨rfl, rfl, rfl, rfl, rfl, trivial⟩ (.refl _) ⟨hs10750, rfl, rfl, (hle10748.trans hle10832), (h10751.le hle10832), hln10754⟩
   ·
    rintro b10134 _ _ ⟨hs10137, rfl, rfl, hle10135, h10138, hln10140⟩
    have hm := hk10141
    refine c_region ?_
    refine t_mv rfl rfl ?_
    obtain ⟨_, h11054, hm⟩ := bindS hm
    have h11054 := (chk_some h11054).2
    refine t_st rfl (st_add rfl rfl h11054) ?_
    refine t_as rfl rfl ?_
    refine t_nil ?_
    exact x_againM (x9218 + 1, l10139) (Option.some.inj hm).symm (e' := [(0, .slice A3 (l10139).length c4), (1, .int .i64 (x7)), (2, .int .i64 (x8)), (3, .func (.func 37) #[] #[.pointer (some ⟨g6, 0, none⟩)]), (8, .int .i64 (x9218 + 1))]) ⟨rfl, rfl, rfl, rfl, rfl, trivial⟩ (.refl _) ⟨hs10137, rfl, rfl, ((hle9214.trans hle10135)), h10138, hln10140⟩
  ·
   rw [if_neg (of_decide_eq_false hc9221)] at hm
   refine c_exit ?_
   refine x_then_exit ?_
   refine x_then_exit ?_
   refine x_block_out ?_
   have hm := congrArg some (houtL5538 _ (Option.some.inj hm).symm)
   obtain rfl := some1 hm
   exact endM hle9214 rfl (.refl _) ⟨hs9216, rfl, rfl, h9217, hln9220⟩

end Go.Proofs.YtnlnohallnfbmaaGreatDoor
