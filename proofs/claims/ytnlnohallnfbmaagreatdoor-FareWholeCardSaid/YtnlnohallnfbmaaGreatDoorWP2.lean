/- Contracts: the code computes its model (part 2). -/
import Derived.Test.YtnlnohallnfbmaaGreatDoorWP1
set_option linter.unusedVariables false
set_option linter.unusedSimpArgs false
namespace Go.Proofs.YtnlnohallnfbmaaGreatDoor
open Go.RowKit Go.Fp

set_option maxRecDepth 20000 in
theorem cFareCondHolds : ∀ (N : Nat) (b : Base) (R : Hp) (s1 : FareCond) (s2 : FareTrip) (A3 : Option Addr) (c4 : Nat) (h5 : FZ (RT.int .i64) b.w A3 c4 s2.Zones) (x203 : Bool) (hm : mFareCondHolds N s1 s2 = some x203),
    CallsG Tryz.prog 66 [.agg #[.int .i64 (s1.Kind), .int .i64 (s1.A), .int .i64 (s1.B), .slice none 0 0], .agg #[.int .i64 (s2.Day), .int .i64 (s2.At), .int .i64 (s2.Km), .int .i64 (s2.Age), .bool (s2.Card), .slice A3 (s2.Zones).length c4]] b (R) (fun v b' hp' => .bool (x203) = v ∧ R = hp') := by
  intro N
  induction N with
  | zero =>
    intro b R s1 s2 A3 c4 h5 x203 hm
    unfold mFareCondHolds at hm
    cases hm
  | succ N ih =>
    intro b R s1 s2 A3 c4 h5 x203 hm
    refine fn_enterG 89 Tryz.func66 rfl Tryz.ntmps66 rfl ?_
    unfold mFareCondHolds at hm
    refine c_sr ?_
    refine t_do rfl (u_box _ rfl rfl) ?_
    rintro _ _ ⟨g204, rfl, rfl⟩
    refine t_do rfl (u_box _ rfl rfl) ?_
    rintro _ _ ⟨g205, rfl, rfl⟩
    refine t_as rfl rfl ?_
    refine t_ne ?_
    refine c_sr ?_
    refine t_st rfl (st_func _ _ rfl rfl) ?_
    refine t_as rfl rfl ?_
    refine t_ne ?_
    refine c_seq ?_
    refine c_sr ?_
    refine t_st rfl (st_field rfl fld63_0) ?_
    refine t_st rfl (st_load 1 rfl one3 rfl rfl) ?_
    refine t_ne ?_
    refine c_block ?_
    refine c_sr ?_
    refine t_st rfl (st_eql rfl rfl) ?_
    refine t_as rfl rfl ?_
    refine t_ne ?_
    refine c_cond _ rfl (fun hc206 => ?_) (fun hc206 => ?_)
    ·
     rw [if_pos (of_decide_eq_true hc206)] at hm
     refine c_sr ?_
     refine t_st rfl (st_field rfl fld69_4) ?_
     refine t_st rfl (st_load 0 rfl one4 rfl rfl) ?_
     refine t_as rfl rfl ?_
     refine t_ne ?_
     refine c_ret ?_
     refine x_block_ret ?_
     refine x_then_ret ?_
     obtain rfl := some1 hm
     exact retM (rs := [.tmp 4]) [.bool (s2.Card)] (Base.Le.refl _) (by decide) rfl ⟨rfl, trivial⟩ rfl (.cons _ (.cons _ (.refl _))) ⟨rfl, rfl⟩
    ·
     rw [if_neg (of_decide_eq_false hc206)] at hm
     refine c_sr ?_
     refine t_st rfl (st_eql rfl rfl) ?_
     refine t_as rfl rfl ?_
     refine t_ne ?_
     refine c_cond _ rfl (fun hc207 => ?_) (fun hc207 => ?_)
     ·
      rw [if_pos (of_decide_eq_true hc207)] at hm
      refine c_sr ?_
      refine t_mv rfl rfl ?_
      refine t_st rfl (st_field rfl fld69_3) ?_
      refine t_st rfl (st_load 0 rfl one3 rfl rfl) ?_
      obtain ⟨x208, hcl209, hm⟩ := bindS hm
      refine t_pullb 1 rfl ?_
      refine t_callvG #[] #[.pointer (some ⟨g204, 0, none⟩)] [.int .i64 (s2.Age)] rfl rfl call84 rfl (cFareCondHolds_1 _ _ s2.Age s1.Kind s1.A s1.B [] g204 none 0 [] OS.nil ⟨fun _ => rfl, fun _ => rfl⟩ x208 hcl209) ?_
      rintro _ b210 _ hle211 ⟨rfl, rfl⟩
      refine t_as rfl rfl ?_
      refine t_ne ?_
      refine c_ret ?_
      refine x_block_ret ?_
      refine x_then_ret ?_
      obtain rfl := some1 hm
      exact retM (rs := [.tmp 4]) [.bool (x208)] hle211 (by decide) rfl ⟨rfl, trivial⟩ rfl (.cons _ (.cons _ (.refl _))) ⟨rfl, rfl⟩
     ·
      rw [if_neg (of_decide_eq_false hc207)] at hm
      refine c_sr ?_
      refine t_st rfl (st_eql rfl rfl) ?_
      refine t_as rfl rfl ?_
      refine t_ne ?_
      refine c_cond _ rfl (fun hc212 => ?_) (fun hc212 => ?_)
      ·
       rw [if_pos (of_decide_eq_true hc212)] at hm
       refine c_sr ?_
       refine t_mv rfl rfl ?_
       refine t_st rfl (st_field rfl fld69_1) ?_
       refine t_st rfl (st_load 0 rfl one3 rfl rfl) ?_
       obtain ⟨x213, hcl214, hm⟩ := bindS hm
       refine t_pullb 1 rfl ?_
       refine t_callvG #[] #[.pointer (some ⟨g204, 0, none⟩)] [.int .i64 (s2.At)] rfl rfl call84 rfl (cFareCondHolds_1 _ _ s2.At s1.Kind s1.A s1.B [] g204 none 0 [] OS.nil ⟨fun _ => rfl, fun _ => rfl⟩ x213 hcl214) ?_
       rintro _ b215 _ hle216 ⟨rfl, rfl⟩
       refine t_as rfl rfl ?_
       refine t_ne ?_
       refine c_ret ?_
       refine x_block_ret ?_
       refine x_then_ret ?_
       obtain rfl := some1 hm
       exact retM (rs := [.tmp 4]) [.bool (x213)] hle216 (by decide) rfl ⟨rfl, trivial⟩ rfl (.cons _ (.cons _ (.refl _))) ⟨rfl, rfl⟩
      ·
       rw [if_neg (of_decide_eq_false hc212)] at hm
       refine c_sr ?_
       refine t_st rfl (st_eql rfl rfl) ?_
       refine t_as rfl rfl ?_
       refine t_ne ?_
       refine c_cond _ rfl (fun hc217 => ?_) (fun hc217 => ?_)
       ·
        rw [if_pos (of_decide_eq_true hc217)] at hm
        refine c_sr ?_
        refine t_mv rfl rfl ?_
        refine t_st rfl (st_field rfl fld69_2) ?_
        refine t_st rfl (st_load 0 rfl one3 rfl rfl) ?_
        obtain ⟨x218, hcl219, hm⟩ := bindS hm
        refine t_pullb 1 rfl ?_
        refine t_callvG #[] #[.pointer (some ⟨g204, 0, none⟩)] [.int .i64 (s2.Km)] rfl rfl call84 rfl (cFareCondHolds_1 _ _ s2.Km s1.Kind s1.A s1.B [] g204 none 0 [] OS.nil ⟨fun _ => rfl, fun _ => rfl⟩ x218 hcl219) ?_
        rintro _ b220 _ hle221 ⟨rfl, rfl⟩
        refine t_as rfl rfl ?_
        refine t_ne ?_
        refine c_ret ?_
        refine x_block_ret ?_
        refine x_then_ret ?_
        obtain rfl := some1 hm
        exact retM (rs := [.tmp 4]) [.bool (x218)] hle221 (by decide) rfl ⟨rfl, trivial⟩ rfl (.cons _ (.cons _ (.refl _))) ⟨rfl, rfl⟩
       ·
        rw [if_neg (of_decide_eq_false hc217)] at hm
        refine c_sr ?_
        refine t_st rfl (st_eql rfl rfl) ?_
        refine t_as rfl rfl ?_
        refine t_ne ?_
        refine c_cond _ rfl (fun hc222 => ?_) (fun hc222 => ?_)
        ·
         rw [if_pos (of_decide_eq_true hc222)] at hm
         refine c_sr ?_
         refine t_mv rfl rfl ?_
         refine t_st rfl (st_field rfl fld69_5) ?_
         refine t_st rfl (st_load 0 rfl one22 rfl rfl) ?_
         refine t_st rfl (st_len rfl sl22) ?_
         obtain ⟨x223, hcl224, hm⟩ := bindS hm
         refine t_pullb 1 rfl ?_
         refine t_callvG #[] #[.pointer (some ⟨g204, 0, none⟩)] [.int .i64 ((s2.Zones.length : Int))] rfl rfl call84 rfl (cFareCondHolds_1 _ _ (s2.Zones.length : Int) s1.Kind s1.A s1.B [] g204 none 0 [] OS.nil ⟨fun _ => rfl, fun _ => rfl⟩ x223 hcl224) ?_
         rintro _ b225 _ hle226 ⟨rfl, rfl⟩
         refine t_as rfl rfl ?_
         refine t_ne ?_
         refine c_ret ?_
         refine x_block_ret ?_
         refine x_then_ret ?_
         obtain rfl := some1 hm
         exact retM (rs := [.tmp 4]) [.bool (x223)] hle226 (by decide) rfl ⟨rfl, trivial⟩ rfl (.cons _ (.cons _ (.refl _))) ⟨rfl, rfl⟩
        ·
         rw [if_neg (of_decide_eq_false hc222)] at hm
         refine c_sr ?_
         refine t_st rfl (st_eql rfl rfl) ?_
         refine t_as rfl rfl ?_
         refine t_ne ?_
         refine c_cond _ rfl (fun hc227 => ?_) (fun hc227 => ?_)
         ·
          rw [if_pos (of_decide_eq_true hc227)] at hm
          refine c_sr ?_
          refine t_st rfl (st_field rfl fld69_5) ?_
          refine t_st rfl (st_load 0 rfl one22 rfl rfl) ?_
          refine t_st rfl (st_field rfl fld63_1) ?_
          refine t_st rfl (st_load 1 rfl one3 rfl rfl) ?_
          obtain ⟨x228, hcl229, hm⟩ := bindS hm
          refine t_do rfl (u_callW0 _ call85 rfl (fun w ho => cSlicesContains _ [] s2.Zones s1.A A3 c4 (h5.old ho) x228 hcl229) (fun _ _ _ h => h.2.symm)) ?_
          rintro _ _ ⟨⟨_, rfl, _⟩, rfl⟩
          refine t_as rfl rfl ?_
          refine t_ne ?_
          refine c_ret ?_
          refine x_block_ret ?_
          refine x_then_ret ?_
          obtain rfl := some1 hm
          exact retM (rs := [.tmp 4]) [.bool (x228)] (Base.Le.refl _) (by decide) rfl ⟨rfl, trivial⟩ rfl (.cons _ (.cons _ (.refl _))) ⟨rfl, rfl⟩
         ·
          rw [if_neg (of_decide_eq_false hc227)] at hm
          refine c_sr ?_
          refine t_st rfl (st_eql rfl rfl) ?_
          refine t_as rfl rfl ?_
          refine t_ne ?_
          refine c_cond _ rfl (fun hc230 => ?_) (fun hc230 => ?_)
          ·
           rw [if_pos (of_decide_eq_true hc230)] at hm
           refine c_seq ?_
           obtain ⟨x241, h242, hm⟩ := bindS hm
           refine D_drawI mixed (.refl _) ?_
           refine E_st 0 rfl (st_field rfl fld69_5) ?_
           refine E_st 1 rfl (st_load 0 rfl one22 rfl rfl) ?_
           obtain ⟨j243, hj244, hx245⟩ := idx_some h242
           obtain ⟨cs246, hr247, hcs248, hA249, hlt250⟩ := FZ.get (sz := 1) rfl (by decide) h5 hx245
           obtain rfl := hr247
           refine E_st 2 rfl (st_index_old j243 rfl rfl hj244 hlt250 hA249 sl22) ?_
           refine E_st 3 rfl (st_load_old rfl one3 (hcs248 0 _ rfl)) ?_
           refine E_st 4 rfl (st_field rfl fld63_1) ?_
           refine E_st 5 rfl (st_load 1 rfl one3 rfl rfl) ?_
           refine E_st 6 rfl (st_eql rfl rfl) ?_
           refine E_st 7 rfl (st_assign rfl) ?_
           refine E_out ?_
           refine D_done (by kernel_rfl) ?_
           refine x_then_normal ?_
           refine c_ret ?_
           refine x_block_ret ?_
           refine x_then_ret ?_
           obtain rfl := some1 hm
           exact retM (rs := [.tmp 4]) [.bool (decide (x241 = s1.A))] (Base.Le.refl _) (by decide) rfl ⟨rfl, trivial⟩ rfl (.cons _ (.cons _ (.refl _))) ⟨rfl, rfl⟩
          ·
           rw [if_neg (of_decide_eq_false hc230)] at hm
           refine c_sr ?_
           refine t_st rfl (st_eql rfl rfl) ?_
           refine t_as rfl rfl ?_
           refine t_ne ?_
           refine c_cond _ rfl (fun hc251 => ?_) (fun hc251 => ?_)
           ·
            rw [if_pos (of_decide_eq_true hc251)] at hm
            refine c_seq ?_
            obtain ⟨_, h263, hm⟩ := bindS hm
            obtain ⟨x264, h265, hm⟩ := bindS hm
            refine D_drawI mixed (.refl _) ?_
            refine E_st 0 rfl (st_field rfl fld69_5) ?_
            refine E_st 1 rfl (st_load 0 rfl one22 rfl rfl) ?_
            refine E_st 2 rfl (st_field rfl fld69_5) ?_
            refine E_st 3 rfl (st_load 0 rfl one22 rfl rfl) ?_
            refine E_st 4 rfl (st_len rfl sl22) ?_
            have h263 := (chk_some h263).2
            refine E_st 5 rfl (st_sub rfl rfl h263) ?_
            obtain ⟨j266, hj267, hx268⟩ := idx_some h265
            obtain ⟨cs269, hr270, hcs271, hA272, hlt273⟩ := FZ.get (sz := 1) rfl (by decide) h5 hx268
            obtain rfl := hr270
            refine E_st 6 rfl (st_index_old j266 rfl rfl hj267 hlt273 hA272 sl22) ?_
            refine E_st 7 rfl (st_load_old rfl one3 (hcs271 0 _ rfl)) ?_
            refine E_st 8 rfl (st_field rfl fld63_1) ?_
            refine E_st 9 rfl (st_load 1 rfl one3 rfl rfl) ?_
            refine E_st 10 rfl (st_eql rfl rfl) ?_
            refine E_st 11 rfl (st_assign rfl) ?_
            refine E_out ?_
            refine D_done (by kernel_rfl) ?_
            refine x_then_normal ?_
            refine c_ret ?_
            refine x_block_ret ?_
            refine x_then_ret ?_
            obtain rfl := some1 hm
            exact retM (rs := [.tmp 4]) [.bool (decide (x264 = s1.A))] (Base.Le.refl _) (by decide) rfl ⟨rfl, trivial⟩ rfl (.cons _ (.cons _ (.refl _))) ⟨rfl, rfl⟩
           ·
            rw [if_neg (of_decide_eq_false hc251)] at hm
            refine c_sr ?_
            refine t_st rfl (st_eql rfl rfl) ?_
            refine t_as rfl rfl ?_
            refine t_ne ?_
            refine c_cond _ rfl (fun hc274 => ?_) (fun hc274 => ?_)
            ·
             rw [if_pos (of_decide_eq_true hc274)] at hm
             refine c_seq ?_
             obtain ⟨x287, h288, hm⟩ := bindS hm
             obtain ⟨x297, hcl298, hm⟩ := bindS hm
             refine D_drawI mixed (.refl _) ?_
             refine E_st 0 rfl (st_field rfl fld63_3) ?_
             refine E_st 1 rfl (st_load 1 rfl one61 rfl rfl) ?_
             obtain ⟨j289, hj290, hx291⟩ := idx_some h288
             obtain ⟨cs292, hr293, hcs294, hA295, hlt296⟩ := FZ.get (sz := 4) rfl (by decide) (FZ.nil (r := rFareCond) (A := none)) hx291
             obtain ⟨_, _, rfl, rfl, ⟨_, _, rfl, rfl, ⟨_, _, rfl, rfl, rfl⟩⟩⟩ := hr293
             refine E_st 2 rfl (st_index_old j289 rfl rfl hj290 hlt296 hA295 sl61) ?_
             refine E_st 3 rfl (st_loadN_old (vs := [.int .i64 (x287.Kind), .int .i64 (x287.A), .int .i64 (x287.B), .slice none 0 0]) 4 rfl agg63 hA295 rfl (fun j u hu => hcs294 j u hu)) ?_
             refine E_st 4 rfl (st_loadD (vs := [_, _, _, _, _, _]) 0 6 rfl agg69 rfl rfl rfl) ?_
             refine E_out ?_
             refine D_all [5] (by kernel_rfl) rfl ?_
             refine R_do (Base.Le.refl _) rfl rfl (u_callW0 _ call66 rfl (fun w ho => ih _ [] x287 s2 A3 c4 (h5.old ho) x297 hcl298) (fun _ _ _ h => h.2.symm)) ?_ ?_
             ·
              rintro _ _ ⟨⟨_, rfl, _⟩, rfl⟩
              refine ⟨.inr (.refl _), ?_⟩
              refine E_in (.refl _) ?_
              refine E_st 6 rfl (st_not rfl) ?_
              refine E_st 7 rfl (st_assign rfl) ?_
              refine E_out ?_
              refine D_done (by kernel_rfl) ?_
              refine x_then_normal ?_
              refine c_ret ?_
              refine x_block_ret ?_
              refine x_then_ret ?_
              obtain rfl := some1 hm
              exact retM (rs := [.tmp 4]) [.bool (!x297)] (Base.Le.refl _) (by decide) rfl ⟨rfl, trivial⟩ rfl (.cons _ (.cons _ (.refl _))) ⟨rfl, rfl⟩
             exact R_nil
            ·
             rw [if_neg (of_decide_eq_false hc274)] at hm
             refine c_sr ?_
             refine t_st rfl (st_eql rfl rfl) ?_
             refine t_as rfl rfl ?_
             refine t_ne ?_
             refine c_cond _ rfl (fun hc299 => ?_) (fun hc299 => ?_)
             ·
              rw [if_pos (of_decide_eq_true hc299)] at hm
              refine c_sr ?_
              refine t_st rfl (st_field rfl fld63_3) ?_
              refine t_st rfl (st_load 1 rfl one61 rfl rfl) ?_
              refine t_st rfl (st_func _ _ rfl rfl) ?_
              obtain ⟨x300, hcl301, hm⟩ := bindS hm
              refine t_callG _ rfl call86 rfl (cSlicesContainsFunc (mFareCondHolds N) ih _ _ [] s2.Day s2.At s2.Km s2.Age s2.Card s2.Zones g205 none 0 A3 c4 FZ.nil h5 x300 hcl301) ?_
              rintro _ b302 _ hle303 ⟨rfl, rfl⟩
              refine t_st rfl (st_not rfl) ?_
              refine t_as rfl rfl ?_
              refine t_ne ?_
              refine c_ret ?_
              refine x_block_ret ?_
              refine x_then_ret ?_
              obtain rfl := some1 hm
              exact retM (rs := [.tmp 4]) [.bool (!x300)] hle303 (by decide) rfl ⟨rfl, trivial⟩ rfl (.cons _ (.cons _ (.refl _))) ⟨rfl, rfl⟩
             ·
              rw [if_neg (of_decide_eq_false hc299)] at hm
              refine c_sr ?_
              refine t_st rfl (st_eql rfl rfl) ?_
              refine t_as rfl rfl ?_
              refine t_ne ?_
              refine c_cond _ rfl (fun hc304 => ?_) (fun hc304 => ?_)
              ·
               rw [if_pos (of_decide_eq_true hc304)] at hm
               refine c_sr ?_
               refine t_st rfl (st_field rfl fld63_3) ?_
               refine t_st rfl (st_load 1 rfl one61 rfl rfl) ?_
               refine t_st rfl (st_func _ _ rfl rfl) ?_
               obtain ⟨x305, hcl306, hm⟩ := bindS hm
               refine t_callG _ rfl call86 rfl (cSlicesContainsFunc_2 (mFareCondHolds N) ih _ _ [] s2.Day s2.At s2.Km s2.Age s2.Card s2.Zones g205 none 0 A3 c4 FZ.nil h5 x305 hcl306) ?_
               rintro _ b307 _ hle308 ⟨rfl, rfl⟩
               refine t_as rfl rfl ?_
               refine t_ne ?_
               refine c_ret ?_
               refine x_block_ret ?_
               refine x_then_ret ?_
               obtain rfl := some1 hm
               exact retM (rs := [.tmp 4]) [.bool (x305)] hle308 (by decide) rfl ⟨rfl, trivial⟩ rfl (.cons _ (.cons _ (.refl _))) ⟨rfl, rfl⟩
              ·
               rw [if_neg (of_decide_eq_false hc304)] at hm
               refine c_skip ?_
               refine x_block_normal ?_
               refine x_then_normal ?_
               refine c_sr ?_
               refine t_as rfl rfl ?_
               refine t_ne ?_
               refine c_ret ?_
               obtain rfl := some1 hm
               exact retM (rs := [.tmp 4]) [.bool (true)] (Base.Le.refl _) (by decide) rfl ⟨rfl, trivial⟩ rfl (.cons _ (.cons _ (.refl _))) ⟨rfl, rfl⟩

set_option maxRecDepth 20000 in
theorem cFareRuleChange (b : Base) (R : Hp) (s1 : FareRule) (x2 : Int) (x14 : Int) (hm : mFareRuleChange s1 x2 = some x14) :
    CallsG Tryz.prog 67 [.agg #[.int .i64 (s1.If.Kind), .int .i64 (s1.If.A), .int .i64 (s1.If.B), .slice none 0 0, .int .i64 (s1.Do), .int .i64 (s1.N), .bool (s1.Stop)], .int .i64 (x2)] b (R) (fun v b' hp' => .int .i64 (x14) = v ∧ R = hp') := by
  refine fn_enterG 43 Tryz.func67 rfl Tryz.ntmps67 rfl ?_
  unfold mFareRuleChange at hm
  refine c_sr ?_
  refine t_do rfl (u_box _ rfl rfl) ?_
  rintro _ _ ⟨g15, rfl, rfl⟩
  refine t_as rfl rfl ?_
  refine t_ne ?_
  refine c_seq ?_
  refine c_sr ?_
  refine t_st rfl (st_field rfl fld65_1) ?_
  refine t_st rfl (st_load 0 rfl one3 rfl rfl) ?_
  refine t_ne ?_
  refine c_block ?_
  refine c_sr ?_
  refine t_st rfl (st_eql rfl rfl) ?_
  refine t_as rfl rfl ?_
  refine t_ne ?_
  refine c_cond _ rfl (fun hc16 => ?_) (fun hc16 => ?_)
  ·
   rw [if_pos (of_decide_eq_true hc16)] at hm
   refine c_sr ?_
   refine t_mv rfl rfl ?_
   refine t_st rfl (st_field rfl fld65_2) ?_
   refine t_st rfl (st_load 0 rfl one3 rfl rfl) ?_
   obtain ⟨_, h17, hm⟩ := bindS hm
   have h17 := (chk_some h17).2
   refine t_st rfl (st_mul rfl rfl h17) ?_
   obtain ⟨_, h18, hm⟩ := bindS hm
   obtain ⟨_, h19, hm⟩ := bindS hm
   have h19 := (chk_some h19).2
   refine t_st rfl (st_quo rfl rfl (ne0_some h18) h19) ?_
   refine t_st rfl (st_min rfl rfl) ?_
   refine t_as rfl rfl ?_
   refine t_ne ?_
   refine c_ret ?_
   refine x_block_ret ?_
   refine x_then_ret ?_
   obtain rfl := some1 hm
   exact retM (rs := [.tmp 4]) [.int .i64 (min 100000 (Int.tdiv (x2 * s1.N) 100))] (Base.Le.refl _) (by decide) rfl ⟨rfl, trivial⟩ rfl (.cons _ (.refl _)) ⟨rfl, rfl⟩
  ·
   rw [if_neg (of_decide_eq_false hc16)] at hm
   refine c_sr ?_
   refine t_st rfl (st_eql rfl rfl) ?_
   refine t_as rfl rfl ?_
   refine t_ne ?_
   refine c_cond _ rfl (fun hc20 => ?_) (fun hc20 => ?_)
   ·
    rw [if_pos (of_decide_eq_true hc20)] at hm
    refine c_sr ?_
    refine t_mv rfl rfl ?_
    refine t_st rfl (st_field rfl fld65_2) ?_
    refine t_st rfl (st_load 0 rfl one3 rfl rfl) ?_
    obtain ⟨_, h21, hm⟩ := bindS hm
    have h21 := (chk_some h21).2
    refine t_st rfl (st_sub rfl rfl h21) ?_
    refine t_st rfl (st_max rfl rfl) ?_
    refine t_as rfl rfl ?_
    refine t_ne ?_
    refine c_ret ?_
    refine x_block_ret ?_
    refine x_then_ret ?_
    obtain rfl := some1 hm
    exact retM (rs := [.tmp 4]) [.int .i64 (max 0 (x2 - s1.N))] (Base.Le.refl _) (by decide) rfl ⟨rfl, trivial⟩ rfl (.cons _ (.refl _)) ⟨rfl, rfl⟩
   ·
    rw [if_neg (of_decide_eq_false hc20)] at hm
    refine c_sr ?_
    refine t_st rfl (st_eql rfl rfl) ?_
    refine t_as rfl rfl ?_
    refine t_ne ?_
    refine c_cond _ rfl (fun hc22 => ?_) (fun hc22 => ?_)
    ·
     rw [if_pos (of_decide_eq_true hc22)] at hm
     refine c_sr ?_
     refine t_mv rfl rfl ?_
     refine t_st rfl (st_field rfl fld65_2) ?_
     refine t_st rfl (st_load 0 rfl one3 rfl rfl) ?_
     obtain ⟨_, h23, hm⟩ := bindS hm
     have h23 := (chk_some h23).2
     refine t_st rfl (st_add rfl rfl h23) ?_
     refine t_st rfl (st_min rfl rfl) ?_
     refine t_as rfl rfl ?_
     refine t_ne ?_
     refine c_ret ?_
     refine x_block_ret ?_
     refine x_then_ret ?_
     obtain rfl := some1 hm
     exact retM (rs := [.tmp 4]) [.int .i64 (min 100000 (x2 + s1.N))] (Base.Le.refl _) (by decide) rfl ⟨rfl, trivial⟩ rfl (.cons _ (.refl _)) ⟨rfl, rfl⟩
    ·
     rw [if_neg (of_decide_eq_false hc22)] at hm
     refine c_sr ?_
     refine t_st rfl (st_eql rfl rfl) ?_
     refine t_as rfl rfl ?_
     refine t_ne ?_
     refine c_cond _ rfl (fun hc24 => ?_) (fun hc24 => ?_)
     ·
      rw [if_pos (of_decide_eq_true hc24)] at hm
      refine c_sr ?_
      refine t_st rfl (st_field rfl fld65_2) ?_
      refine t_st rfl (st_load 0 rfl one3 rfl rfl) ?_
      refine t_as rfl rfl ?_
      refine t_ne ?_
      refine c_ret ?_
      refine x_block_ret ?_
      refine x_then_ret ?_
      obtain rfl := some1 hm
      exact retM (rs := [.tmp 4]) [.int .i64 (s1.N)] (Base.Le.refl _) (by decide) rfl ⟨rfl, trivial⟩ rfl (.cons _ (.refl _)) ⟨rfl, rfl⟩
     ·
      rw [if_neg (of_decide_eq_false hc24)] at hm
      refine c_sr ?_
      refine t_st rfl (st_eql rfl rfl) ?_
      refine t_as rfl rfl ?_
      refine t_ne ?_
      refine c_cond _ rfl (fun hc25 => ?_) (fun hc25 => ?_)
      ·
       rw [if_pos (of_decide_eq_true hc25)] at hm
       refine c_sr ?_
       refine t_mv rfl rfl ?_
       refine t_st rfl (st_field rfl fld65_2) ?_
       refine t_st rfl (st_load 0 rfl one3 rfl rfl) ?_
       refine t_st rfl (st_min rfl rfl) ?_
       refine t_as rfl rfl ?_
       refine t_ne ?_
       refine c_ret ?_
       refine x_block_ret ?_
       refine x_then_ret ?_
       obtain rfl := some1 hm
       exact retM (rs := [.tmp 4]) [.int .i64 (min x2 s1.N)] (Base.Le.refl _) (by decide) rfl ⟨rfl, trivial⟩ rfl (.cons _ (.refl _)) ⟨rfl, rfl⟩
      ·
       rw [if_neg (of_decide_eq_false hc25)] at hm
       refine c_skip ?_
       refine x_block_normal ?_
       refine x_then_normal ?_
       refine c_sr ?_
       refine t_mv rfl rfl ?_
       refine t_st rfl (st_field rfl fld65_2) ?_
       refine t_st rfl (st_load 0 rfl one3 rfl rfl) ?_
       refine t_st rfl (st_max rfl rfl) ?_
       refine t_as rfl rfl ?_
       refine t_ne ?_
       refine c_ret ?_
       obtain rfl := some1 hm
       exact retM (rs := [.tmp 4]) [.int .i64 (max x2 s1.N)] (Base.Le.refl _) (by decide) rfl ⟨rfl, trivial⟩ rfl (.cons _ (.refl _)) ⟨rfl, rfl⟩

set_option maxRecDepth 20000 in
theorem cFareTariffPrice (b : Base) (R : Hp) (s1 : FareTariff) (s8 : FareTrip) (A2 : Option Addr) (c3 : Nat) (A5 : Option Addr) (c6 : Nat) (A9 : Option Addr) (c10 : Nat) (h4 : FZ rFareBand b.w A2 c3 s1.Bands) (h7 : FZ rFareRule b.w A5 c6 s1.Rules) (h11 : FZ (RT.int .i64) b.w A9 c10 s8.Zones) (x256 : Int) (l257 : (List Int)) (hm : mFareTariffPrice s1 s8 = some (x256, l257)) :
    CallsG Tryz.prog 44 [.agg #[.bool (s1.ByKm), .slice A2 (s1.Bands).length c3, .int .i64 (s1.Round), .slice A5 (s1.Rules).length c6], .agg #[.int .i64 (s8.Day), .int .i64 (s8.At), .int .i64 (s8.Km), .int .i64 (s8.Age), .bool (s8.Card), .slice A9 (s8.Zones).length c10]] b (R) (fun v b' hp' => ∃ (A253 : Option Addr), ∃ (c254 : Nat), ∃ (hs252 : Hp), .tuple #[.int .i64 (x256), .slice A253 (l257).length c254] = v ∧ (hs252 ++ R) = hp' ∧ OS 3 (OT.fr (RT.int .i64)) b'.w (.slice A253 l257.length c254) l257 hs252) := by
  refine fn_enterG 70 Tryz.func44 rfl Tryz.ntmps44 rfl ?_
  unfold mFareTariffPrice at hm
  refine c_sr ?_
  refine t_do rfl (u_box _ rfl rfl) ?_
  rintro _ _ ⟨g258, rfl, rfl⟩
  refine t_do rfl (u_box _ rfl rfl) ?_
  rintro _ _ ⟨g259, rfl, rfl⟩
  refine t_as rfl rfl ?_
  refine t_as rfl rfl ?_
  refine t_ne ?_
  refine c_sr ?_
  refine t_st rfl (st_field rfl fld69_5) ?_
  refine t_st rfl (st_load 0 rfl one22 rfl rfl) ?_
  refine t_st rfl (st_len rfl sl22) ?_
  refine t_do rfl (u_alloc [.int .i64 0] zero3 rfl) ?_
  rintro _ _ ⟨g260, rfl, rfl⟩
  refine t_do rfl (u_store 0 rfl rfl siz3 rfl rfl (by simp)) ?_
  rintro _ _ rfl
  refine t_ne ?_
  obtain ⟨x264, hj265, hk265⟩ := bindS hm
  refine c_join (fun b262 e' hp' => [(2, .pointer (some ⟨g258, 0, none⟩)), (3, .pointer (some ⟨g259, 0, none⟩)), (6, .pointer (some ⟨g260, 0, none⟩))] = e' ∧ (g258, Cl 52 [.bool (s1.ByKm), .slice A2 (s1.Bands).length c3, .int .i64 (s1.Round), .slice A5 (s1.Rules).length c6]) :: (g259, Cl 69 [.int .i64 (s8.Day), .int .i64 (s8.At), .int .i64 (s8.Km), .int .i64 (s8.Age), .bool (s8.Card), .slice A9 (s8.Zones).length c10]) :: (g260, Cl 3 [.int .i64 (x264)]) :: R = hp' ∧ b.Le b262) ?_ ?_
  ·
   have hm := hj265
   refine c_sr ?_
   refine t_st rfl (st_field rfl fld52_0) ?_
   refine t_st rfl (st_load 2 rfl one4 rfl rfl) ?_
   refine t_ne ?_
   refine c_cond _ rfl (fun hc266 => ?_) (fun hc266 => ?_)
   ·
    rw [if_pos hc266] at hm
    refine c_region ?_
    refine t_st rfl (st_field rfl fld69_2) ?_
    refine t_st rfl (st_load 1 rfl one3 rfl rfl) ?_
    refine t_do rfl (u_store 0 rfl rfl siz3 rfl rfl (by simp)) ?_
    rintro _ _ rfl
    refine t_nil ?_
    obtain rfl := some1 hm
    refine x_pullb 1 rfl ?_
    refine x_pullb 2 rfl ?_
    exact x_join (e' := [(2, .pointer (some ⟨g258, 0, none⟩)), (3, .pointer (some ⟨g259, 0, none⟩)), (6, .pointer (some ⟨g260, 0, none⟩))]) ⟨rfl, rfl, rfl, trivial⟩ (.refl _) ⟨rfl, rfl, (Base.Le.refl _)⟩
   ·
    rw [if_neg (fun hh => Bool.noConfusion (hh.symm.trans hc266))] at hm
    refine c_skip ?_
    obtain rfl := some1 hm
    refine x_pullb 1 rfl ?_
    refine x_pullb 2 rfl ?_
    exact x_join (e' := [(2, .pointer (some ⟨g258, 0, none⟩)), (3, .pointer (some ⟨g259, 0, none⟩)), (6, .pointer (some ⟨g260, 0, none⟩))]) ⟨rfl, rfl, rfl, trivial⟩ (.refl _) ⟨rfl, rfl, (Base.Le.refl _)⟩
  ·
   rintro b262 _ _ ⟨rfl, rfl, hle263⟩
   have hm := hk265
   refine c_sr ?_
   refine t_st rfl (st_field rfl fld52_1) ?_
   refine t_st rfl (st_load 0 rfl one49 rfl rfl) ?_
   refine t_st rfl (st_func _ _ rfl rfl) ?_
   obtain ⟨x267, hcl268, hm⟩ := bindS hm
   refine t_pullb 2 rfl ?_
   refine t_callG _ rfl call64 rfl (cSlicesIndexFunc _ _ s1.Bands x264 g260 A2 c3 (h4.le hle263) x267 hcl268) ?_
   rintro _ b269 _ hle270 ⟨rfl, rfl⟩
   refine t_as rfl rfl ?_
   refine t_ne ?_
   obtain ⟨x275, hj276, hk276⟩ := bindS hm
   refine c_join (fun b273 e' hp' => [(2, .pointer (some ⟨g258, 0, none⟩)), (3, .pointer (some ⟨g259, 0, none⟩)), (7, .int .i64 (x275))] = e' ∧ (g258, Cl 52 [.bool (s1.ByKm), .slice A2 (s1.Bands).length c3, .int .i64 (s1.Round), .slice A5 (s1.Rules).length c6]) :: (g259, Cl 69 [.int .i64 (s8.Day), .int .i64 (s8.At), .int .i64 (s8.Km), .int .i64 (s8.Age), .bool (s8.Card), .slice A9 (s8.Zones).length c10]) :: R = hp' ∧ b269.Le b273) ?_ ?_
   ·
    have hm := hj276
    refine c_sr ?_
    refine t_mv rfl rfl ?_
    refine t_st rfl (st_lss rfl rfl) ?_
    refine t_ne ?_
    refine c_cond _ rfl (fun hc277 => ?_) (fun hc277 => ?_)
    ·
     rw [if_pos (of_decide_eq_true hc277)] at hm
     refine c_region ?_
     refine t_st rfl (st_field rfl fld52_1) ?_
     refine t_st rfl (st_load 1 rfl one49 rfl rfl) ?_
     refine t_st rfl (st_len rfl sl49) ?_
     obtain ⟨_, h278, hm⟩ := bindS hm
     have h278 := (chk_some h278).2
     refine t_st rfl (st_sub rfl rfl h278) ?_
     refine t_as rfl rfl ?_
     refine t_nil ?_
     obtain rfl := some1 hm
     refine x_pullb 2 rfl ?_
     refine x_pullb 2 rfl ?_
     exact x_join (e' := [(2, .pointer (some ⟨g258, 0, none⟩)), (3, .pointer (some ⟨g259, 0, none⟩)), (7, .int .i64 ((s1.Bands.length : Int) - 1))]) ⟨rfl, rfl, rfl, trivial⟩ (.cons_cons _ (.cons_cons _ (.cons _ (.refl _)))) ⟨rfl, rfl, (Base.Le.refl _)⟩
    ·
     rw [if_neg (of_decide_eq_false hc277)] at hm
     refine c_skip ?_
     obtain rfl := some1 hm
     refine x_pullb 2 rfl ?_
     refine x_pullb 2 rfl ?_
     exact x_join (e' := [(2, .pointer (some ⟨g258, 0, none⟩)), (3, .pointer (some ⟨g259, 0, none⟩)), (7, .int .i64 (x267))]) ⟨rfl, rfl, rfl, trivial⟩ (.cons_cons _ (.cons_cons _ (.cons _ (.refl _)))) ⟨rfl, rfl, (Base.Le.refl _)⟩
   ·
    rintro b273 _ _ ⟨rfl, rfl, hle274⟩
    have hm := hk276
    refine c_sr ?_
    refine t_st rfl (st_field rfl fld52_1) ?_
    refine t_st rfl (st_load 0 rfl one49 rfl rfl) ?_
    refine t_mv rfl rfl ?_
    obtain ⟨x279, h280, hm⟩ := bindS hm
    obtain ⟨j281, hj282, hx283⟩ := idx_some h280
    obtain ⟨cs284, hr285, hcs286, hA287, hlt288⟩ := FZ.get (sz := 2) rfl (by decide) (h4.le (hle263.trans (hle270.trans hle274))) hx283
    obtain ⟨_, _, rfl, rfl, rfl⟩ := hr285
    refine t_st rfl (st_index_old j281 rfl rfl hj282 hlt288 hA287 sl49) ?_
    refine t_st rfl (st_field_old rfl hA287 fld60_1) ?_
    refine t_st rfl (st_load_old rfl one3 (hcs286 1 _ rfl)) ?_
    refine t_as rfl rfl ?_
    refine t_ne ?_
    refine c_sr ?_
    refine t_as rfl rfl ?_
    refine t_ne ?_
    obtain ⟨⟨x390, l391⟩, hj392, hk392⟩ := bindS hm
    refine c_join (fun b383 e' hp' => ∃ (A387 : Option Addr), ∃ (c388 : Nat), ∃ (hs386 : Hp), [(2, .pointer (some ⟨g258, 0, none⟩)), (8, .int .i64 (x390)), (9, .slice A387 (l391).length c388)] = e' ∧ (g258, Cl 52 [.bool (s1.ByKm), .slice A2 (s1.Bands).length c3, .int .i64 (s1.Round), .slice A5 (s1.Rules).length c6]) :: (hs386 ++ R) = hp' ∧ b273.Le b383 ∧ OS 3 (OT.fr (RT.int .i64)) b383.w (.slice A387 l391.length c388) l391 hs386) ?_ ?_
    ·
     have hm := hj392
     refine c_sr ?_
     refine t_st rfl (st_field rfl fld52_3) ?_
     refine t_st rfl (st_load 0 rfl one50 rfl rfl) ?_
     refine t_st rfl (st_len rfl sl50) ?_
     refine t_mv rfl rfl ?_
     refine t_ne ?_
     refine c_block ?_
     have hb394 : s1.Rules.length ≤ 9223372036854775807 := (FZ.bd (h7.le (hle263.trans (hle270.trans hle274))))
     refine c_pullb 1 rfl ?_
     refine c_pullb 1 rfl ?_
     obtain ⟨t459, hl460, hk461⟩ := bindS hm
     refine c_forM (fun k458 => unc2 fun x456 l457 => fun b449 e' hp' => ∃ (A453 : Option Addr), ∃ (c454 : Nat), ∃ (hs452 : Hp), [(2, .pointer (some ⟨g258, 0, none⟩)), (3, .pointer (some ⟨g259, 0, none⟩)), (8, .int .i64 (x456)), (9, .slice A453 (l457).length c454), (36, .slice A5 (s1.Rules).length c6), (37, .int .i64 ((s1.Rules.length : Int))), (38, .int .i64 ((k458 : Int)))] = e' ∧ (g258, Cl 52 [.bool (s1.ByKm), .slice A2 (s1.Bands).length c3, .int .i64 (s1.Round), .slice A5 (s1.Rules).length c6]) :: (g259, Cl 69 [.int .i64 (s8.Day), .int .i64 (s8.At), .int .i64 (s8.Km), .int .i64 (s8.Age), .bool (s8.Card), .slice A9 (s8.Zones).length c10]) :: (hs452 ++ R) = hp' ∧ b273.Le b449 ∧ OS 3 (OT.fr (RT.int .i64)) b449.w (.slice A453 l457.length c454) l457 hs452) hl460 (e' := [(2, .pointer (some ⟨g258, 0, none⟩)), (3, .pointer (some ⟨g259, 0, none⟩)), (8, .int .i64 (x279.Price)), (9, .slice none 0 0), (36, .slice A5 (s1.Rules).length c6), (37, .int .i64 ((s1.Rules.length : Int))), (38, .int .i64 0)]) ⟨rfl, rfl, rfl, rfl, rfl, rfl, rfl, trivial⟩ (.refl _) ⟨none, 0, [], rfl, rfl, (Base.Le.refl _), OS.nil⟩ ?_ ?_
     ·
      rintro k458 ⟨x456, l457⟩ b449 _ _ oL393 hknL393 ⟨A453, c454, hs452, rfl, rfl, hle450, h455⟩ hstepL393 houtL393
      unfold mFareTariffPrice_L393 at hstepL393
      have hm := (unc2E hstepL393)
      refine c_sr ?_
      refine t_st rfl (st_lss_t rfl rfl (by omega)) ?_
      refine t_ne ?_
      refine c_seq ?_
      refine c_cond_t rfl ?_
      refine c_skip ?_
      refine x_then_normal ?_
      refine c_seq ?_
      refine c_block ?_
      refine c_sr ?_
      refine t_mv rfl rfl ?_
      obtain ⟨x462, h463, hm⟩ := bindS hm
      obtain ⟨j464, hj465, hx466⟩ := idx_some h463
      obtain ⟨cs467, hr468, hcs469, hA470, hlt471⟩ := FZ.get (sz := 7) rfl (by decide) (h7.le (hle263.trans (hle270.trans (hle274.trans hle450)))) hx466
      obtain ⟨_, _, rfl, ⟨_, _, rfl, rfl, ⟨_, _, rfl, rfl, ⟨_, _, rfl, rfl, rfl⟩⟩⟩, ⟨_, _, rfl, rfl, ⟨_, _, rfl, rfl, rfl⟩⟩⟩ := hr468
      refine t_st rfl (st_index_old j464 rfl rfl hj465 hlt471 hA470 sl50) ?_
      refine t_st rfl (st_loadN_old (vs := [.int .i64 (x462.If.Kind), .int .i64 (x462.If.A), .int .i64 (x462.If.B), .slice none 0 0, .int .i64 (x462.Do), .int .i64 (x462.N), .bool (x462.Stop)]) 7 rfl agg65 hA470 rfl (fun j u hu => hcs469 j u hu)) ?_
      refine t_do rfl (u_alloc [.int .i64 0, .int .i64 0, .int .i64 0, .slice none 0 0, .int .i64 0, .int .i64 0, .bool false] zero65 rfl) ?_
      rintro _ _ ⟨g472, rfl, rfl⟩
      refine t_as rfl rfl ?_
      refine t_do rfl (u_storeN (vs := [_, _, _, _, _, _, _]) 0 7 rfl rfl rfl siz65 rfl (mem_c rfl (mem_c rfl (mem_c rfl (mem_c rfl (mem_c rfl (mem_c rfl (mem_c rfl mem_n))))))) rfl (by simp)) ?_
      rintro _ _ rfl
      refine t_ne ?_
      refine c_seq ?_
      refine c_sr ?_
      refine t_st rfl (st_field rfl fld65_0) ?_
      refine t_st rfl (st_loadD (vs := [_, _, _, _]) 0 4 rfl agg63 rfl rfl rfl) ?_
      refine t_st rfl (st_loadD (vs := [_, _, _, _, _, _]) 2 6 rfl agg69 rfl rfl rfl) ?_
      obtain ⟨x473, hcl474, hm⟩ := bindS hm
      obtain ⟨Nhcl474, hcl474⟩ := lim_some hcl474
      refine t_do rfl (u_callW0 _ call66 rfl (fun w ho => cFareCondHolds Nhcl474 _ [] x462.If s8 A9 c10 ((h11.le (hle263.trans (hle270.trans (hle274.trans hle450)))).old ho) x473 hcl474) (fun _ _ _ h => h.2.symm)) ?_
      rintro _ _ ⟨⟨_, rfl, _⟩, rfl⟩
      refine t_st rfl (st_not rfl) ?_
      refine t_ne ?_
      refine c_cond _ rfl (fun hc475 => ?_) (fun hc475 => ?_)
      ·
       rw [if_neg (fun hh => Bool.noConfusion (hh.symm.trans (notT hc475)))] at hm
       refine c_exit ?_
       refine x_then_exit ?_
       refine x_block_out ?_
       refine x_then_normal ?_
       refine c_region ?_
       refine t_st rfl (st_add rfl rfl (by omega)) ?_
       refine t_mv rfl rfl ?_
       refine t_nil ?_
       refine x_pullb 2 rfl ?_
       refine x_pullb 2 rfl ?_
       exact x_againM (x456, l457) (Option.some.inj hm).symm (e' := [(2, .pointer (some ⟨g258, 0, none⟩)), (3, .pointer (some ⟨g259, 0, none⟩)), (8, .int .i64 (x456)), (9, .slice A453 (l457).length c454), (36, .slice A5 (s1.Rules).length c6), (37, .int .i64 ((s1.Rules.length : Int))), (38, .int .i64 ((k458 : Int) + 1))]) ⟨rfl, rfl, rfl, rfl, rfl, rfl, rfl, trivial⟩ (.cons_cons _ (.cons_cons _ (.cons _ (.refl _)))) ⟨A453, c454, hs452, rfl, rfl, (hle450), h455⟩
      ·
       rw [if_pos (notF hc475)] at hm
       refine c_skip ?_
       refine x_then_normal ?_
       refine c_sr ?_
       refine t_mv rfl rfl ?_
       refine t_mv rfl rfl ?_
       refine t_do rfl (u_bslice (el := 3) [(0, .int .i64 ((k458 : Int)))] [.int .i64 ((k458 : Int))] rfl (fun _ => by kernel_rfl)) ?_
       rintro _ _ ⟨g476, rfl, rfl⟩
       obtain ⟨_, h477, hm⟩ := bindS hm
       have h477 := room_some h477
       refine t_do rfl (u_appOS (r := (RT.int .i64)) (l := l457) [_, _, _, _] R [[.int .i64 ((k458 : Int))]] [(k458 : Int)] rfl (by decide) sl22 inf3 rfl rfl rfl rfl h455 rfl (fun w ho => Rd.own (i := 0) ho rfl) ⟨rfl, trivial⟩ h477) ?_
       rintro _ _ ⟨hs478, rfl, h479⟩
       obtain ⟨A480, c481, rfl, _⟩ := h479.form
       refine t_as rfl rfl ?_
       refine t_ne ?_
       refine c_sr ?_
       refine t_st rfl (st_loadD (vs := [_, _, _, _, _, _, _]) 1 7 rfl agg65 rfl rfl rfl) ?_
       refine t_mv rfl rfl ?_
       obtain ⟨x482, hcl483, hm⟩ := bindS hm
       refine t_do rfl (u_callW0 _ call67 rfl (fun w ho => cFareRuleChange _ [] x462 x456 x482 hcl483) (fun _ _ _ h => h.2.symm)) ?_
       rintro _ _ ⟨⟨_, rfl, _⟩, rfl⟩
       refine t_as rfl rfl ?_
       refine t_ne ?_
       refine c_sr ?_
       refine t_st rfl (st_field rfl fld65_3) ?_
       refine t_st rfl (st_load 1 rfl one4 rfl rfl) ?_
       refine t_ne ?_
       refine c_cond _ rfl (fun hc484 => ?_) (fun hc484 => ?_)
       ·
        rw [if_pos hc484] at hm
        refine c_exit ?_
        refine x_block_on rfl ?_
        refine x_then_exit ?_
        refine x_then_exit ?_
        refine x_block_out ?_
        have hq485 := houtL393 _ (Option.some.inj hm).symm
        rw [hq485] at hk461
        have hm := elimR hk461
        obtain ⟨rfl, rfl⟩ := some2 hm
        refine x_pullb 2 rfl ?_
        exact x_join (e' := [(2, .pointer (some ⟨g258, 0, none⟩)), (8, .int .i64 (x482)), (9, .slice A480 (l457 ++ [(k458 : Int)]).length c481)]) ⟨rfl, rfl, rfl, trivial⟩ (.cons_cons _ (.cons _ (.cons _ (.cons _ (.refl _))))) ⟨A480, c481, hs478, rfl, rfl, hle450, h479⟩
       ·
        rw [if_neg (fun hh => Bool.noConfusion (hh.symm.trans hc484))] at hm
        refine c_skip ?_
        refine x_block_normal ?_
        refine x_then_normal ?_
        refine c_region ?_
        refine t_st rfl (st_add rfl rfl (by omega)) ?_
        refine t_mv rfl rfl ?_
        refine t_nil ?_
        refine x_pullb 3 rfl ?_
        refine x_pullb 3 rfl ?_
        exact x_againM (x482, l457 ++ [(k458 : Int)]) (Option.some.inj hm).symm (e' := [(2, .pointer (some ⟨g258, 0, none⟩)), (3, .pointer (some ⟨g259, 0, none⟩)), (8, .int .i64 (x482)), (9, .slice A480 (l457 ++ [(k458 : Int)]).length c481), (36, .slice A5 (s1.Rules).length c6), (37, .int .i64 ((s1.Rules.length : Int))), (38, .int .i64 ((k458 : Int) + 1))]) ⟨rfl, rfl, rfl, rfl, rfl, rfl, rfl, trivial⟩ (.cons_cons _ (.cons_cons _ (.cons _ (.cons _ (.refl _))))) ⟨A480, c481, hs478, rfl, rfl, (hle450), h479⟩
     ·
      rintro ⟨x456, l457⟩ b449 _ _ ⟨A453, c454, hs452, rfl, rfl, hle450, h455⟩ hq486
      rw [hq486] at hk461
      have hm := elimL hk461
      have hm := (unc2E hm)
      refine c_sr ?_
      refine t_st rfl (st_lss_f rfl rfl (by omega)) ?_
      refine t_ne ?_
      refine c_seq ?_
      refine c_cond_f rfl ?_
      refine c_exit ?_
      refine x_then_exit ?_
      refine x_then_exit ?_
      refine x_block_out ?_
      obtain ⟨rfl, rfl⟩ := some2 hm
      exact x_join (e' := [(2, .pointer (some ⟨g258, 0, none⟩)), (8, .int .i64 (x456)), (9, .slice A453 (l457).length c454)]) ⟨rfl, rfl, rfl, trivial⟩ (.cons_cons _ (.cons _ (.refl _))) ⟨A453, c454, hs452, rfl, rfl, hle450, h455⟩
    ·
     rintro b383 _ _ ⟨A387, c388, hs386, rfl, rfl, hle384, h389⟩
     have hm := (unc2E hk392)
     refine c_seq ?_
     obtain ⟨_, h492, hm⟩ := bindS hm
     obtain ⟨_, h493, hm⟩ := bindS hm
     obtain ⟨_, h494, hm⟩ := bindS hm
     obtain ⟨_, h495, hm⟩ := bindS hm
     obtain ⟨_, h496, hm⟩ := bindS hm
     refine D_drawI mixed (.refl _) ?_
     refine E_st 0 rfl (st_move rfl) ?_
     refine E_st 1 rfl (st_field rfl fld52_2) ?_
     refine E_st 2 rfl (st_load 0 rfl one3 rfl rfl) ?_
     have h492 := (chk_some h492).2
     refine E_st 3 rfl (st_add rfl rfl h492) ?_
     have h493 := (chk_some h493).2
     refine E_st 4 rfl (st_sub rfl rfl h493) ?_
     refine E_st 5 rfl (st_field rfl fld52_2) ?_
     refine E_st 6 rfl (st_load 0 rfl one3 rfl rfl) ?_
     have h495 := (chk_some h495).2
     refine E_st 7 rfl (st_quo rfl rfl (ne0_some h494) h495) ?_
     refine E_st 8 rfl (st_field rfl fld52_2) ?_
     refine E_st 9 rfl (st_load 0 rfl one3 rfl rfl) ?_
     have h496 := (chk_some h496).2
     refine E_st 10 rfl (st_mul rfl rfl h496) ?_
     refine E_st 11 rfl (st_move rfl) ?_
     refine E_st 12 rfl (st_assign rfl) ?_
     refine E_st 13 rfl (st_assign rfl) ?_
     refine E_out ?_
     refine D_done (by kernel_rfl) ?_
     refine x_then_normal ?_
     refine c_ret ?_
     obtain ⟨rfl, rfl⟩ := some2 hm
     exact retM (rs := [.tmp 4, .tmp 5]) [.int .i64 ((Int.tdiv ((x390 + s1.Round) - 1) s1.Round) * s1.Round), .slice A387 (l391).length c388] (hle263.trans (hle270.trans (hle274.trans hle384))) (by decide) rfl ⟨rfl, ⟨rfl, trivial⟩⟩ rfl (.cons _ (.refl _)) ⟨A387, c388, hs386, rfl, rfl, h389⟩

set_option maxRecDepth 20000 in
theorem cFarePrice (b : Base) (R : Hp) (s1 : FareTariff) (s8 : FareTrip) (A2 : Option Addr) (c3 : Nat) (A5 : Option Addr) (c6 : Nat) (A9 : Option Addr) (c10 : Nat) (h4 : FZ rFareBand b.w A2 c3 s1.Bands) (h7 : FZ rFareRule b.w A5 c6 s1.Rules) (h11 : FZ (RT.int .i64) b.w A9 c10 s8.Zones) (x34 : Int) (x35 : Int) (l36 : (List Int)) (hm : mFarePrice s1 s8 = some (x34, x35, l36)) :
    CallsG Tryz.prog 22 [.agg #[.bool (s1.ByKm), .slice A2 (s1.Bands).length c3, .int .i64 (s1.Round), .slice A5 (s1.Rules).length c6], .agg #[.int .i64 (s8.Day), .int .i64 (s8.At), .int .i64 (s8.Km), .int .i64 (s8.Age), .bool (s8.Card), .slice A9 (s8.Zones).length c10]] b (R) (fun v b' hp' => ∃ (A31 : Option Addr), ∃ (c32 : Nat), ∃ (hs30 : Hp), .tuple #[.int .i64 (x34), .slice A31 (l36).length c32, .int .i64 (x35)] = v ∧ (hs30 ++ R) = hp' ∧ OS 3 (OT.fr (RT.int .i64)) b'.w (.slice A31 l36.length c32) l36 hs30) := by
  refine fn_enterG 29 Tryz.func22 rfl Tryz.ntmps22 rfl ?_
  unfold mFarePrice at hm
  refine c_sr ?_
  refine t_do rfl (u_box _ rfl rfl) ?_
  rintro _ _ ⟨g37, rfl, rfl⟩
  refine t_do rfl (u_box _ rfl rfl) ?_
  rintro _ _ ⟨g38, rfl, rfl⟩
  refine t_as rfl rfl ?_
  refine t_as rfl rfl ?_
  refine t_as rfl rfl ?_
  refine t_ne ?_
  refine c_seq ?_
  refine c_sr ?_
  refine t_st rfl (st_loadD (vs := [_, _, _, _]) 1 4 rfl agg52 rfl rfl rfl) ?_
  obtain ⟨x39, hcl40, hm⟩ := bindS hm
  refine t_do rfl (u_callW0 _ call42 rfl (fun w ho => cFareCheckTariff _ [] s1 A2 c3 A5 c6 (h4.old ho) (h7.old ho) x39 hcl40) (fun _ _ _ h => h.2.symm)) ?_
  rintro _ _ ⟨⟨_, rfl, _⟩, rfl⟩
  refine t_as rfl rfl ?_
  refine t_ne ?_
  refine c_sr ?_
  refine t_mv rfl rfl ?_
  refine t_st rfl (st_neq rfl rfl) ?_
  refine t_ne ?_
  refine c_cond _ rfl (fun hc41 => ?_) (fun hc41 => ?_)
  ·
   rw [if_pos (of_decide_eq_true hc41)] at hm
   refine c_sr ?_
   refine t_mv rfl rfl ?_
   refine t_as rfl rfl ?_
   refine t_as rfl rfl ?_
   refine t_as rfl rfl ?_
   refine t_ne ?_
   refine c_ret ?_
   refine x_then_ret ?_
   obtain ⟨rfl, rfl, rfl⟩ := some3 hm
   exact retM (rs := [.tmp 4, .tmp 5, .tmp 6]) [.int .i64 (0), .slice none 0 0, .int .i64 (x39)] (Base.Le.refl _) (by decide) rfl ⟨rfl, ⟨rfl, ⟨rfl, trivial⟩⟩⟩ rfl (.cons _ (.cons _ (.refl _))) ⟨none, 0, [], rfl, rfl, OS.nil⟩
  ·
   rw [if_neg (of_decide_eq_false hc41)] at hm
   refine c_skip ?_
   refine x_then_normal ?_
   refine c_seq ?_
   refine c_sr ?_
   refine t_st rfl (st_loadD (vs := [_, _, _, _, _, _]) 0 6 rfl agg69 rfl rfl rfl) ?_
   obtain ⟨x42, hcl43, hm⟩ := bindS hm
   refine t_do rfl (u_callW0 _ call43 rfl (fun w ho => cFareCheckTrip _ [] s8 A9 c10 (h11.old ho) x42 hcl43) (fun _ _ _ h => h.2.symm)) ?_
   rintro _ _ ⟨⟨_, rfl, _⟩, rfl⟩
   refine t_as rfl rfl ?_
   refine t_ne ?_
   refine c_sr ?_
   refine t_mv rfl rfl ?_
   refine t_st rfl (st_neq rfl rfl) ?_
   refine t_ne ?_
   refine c_cond _ rfl (fun hc44 => ?_) (fun hc44 => ?_)
   ·
    rw [if_pos (of_decide_eq_true hc44)] at hm
    refine c_sr ?_
    refine t_mv rfl rfl ?_
    refine t_as rfl rfl ?_
    refine t_as rfl rfl ?_
    refine t_as rfl rfl ?_
    refine t_ne ?_
    refine c_ret ?_
    refine x_then_ret ?_
    obtain ⟨rfl, rfl, rfl⟩ := some3 hm
    exact retM (rs := [.tmp 4, .tmp 5, .tmp 6]) [.int .i64 (0), .slice none 0 0, .int .i64 (x42)] (Base.Le.refl _) (by decide) rfl ⟨rfl, ⟨rfl, ⟨rfl, trivial⟩⟩⟩ rfl (.cons _ (.cons _ (.refl _))) ⟨none, 0, [], rfl, rfl, OS.nil⟩
   ·
    rw [if_neg (of_decide_eq_false hc44)] at hm
    refine c_skip ?_
    refine x_then_normal ?_
    refine c_sr ?_
    refine t_st rfl (st_loadD (vs := [_, _, _, _]) 1 4 rfl agg52 rfl rfl rfl) ?_
    refine t_st rfl (st_loadD (vs := [_, _, _, _, _, _]) 0 6 rfl agg69 rfl rfl rfl) ?_
    obtain ⟨⟨x45, l46⟩, hcl47, hm⟩ := bindS hm
    have hm := (unc2E hm)
    refine t_callG _ rfl call44 rfl (cFareTariffPrice _ _ s1 s8 A2 c3 A5 c6 A9 c10 h4 h7 h11 x45 l46 hcl47) ?_
    rintro _ b48 _ hle49 ⟨A50, c51, hs52, rfl, rfl, h53⟩
    refine t_in1 [] [_, _] hs52 R rfl ?_
    refine t_mv rfl rfl ?_
    refine t_st rfl (st_extract rfl rfl) ?_
    refine t_st rfl (st_extract rfl rfl) ?_
    refine t_as rfl rfl ?_
    refine t_as rfl rfl ?_
    refine t_ne ?_
    refine c_sr ?_
    refine t_mv rfl rfl ?_
    refine t_mv rfl rfl ?_
    refine t_as rfl rfl ?_
    refine t_as rfl rfl ?_
    refine t_as rfl rfl ?_
    refine t_ne ?_
    refine c_ret ?_
    obtain ⟨rfl, rfl, rfl⟩ := some3 hm
    exact retM (rs := [.tmp 4, .tmp 5, .tmp 6]) [.int .i64 (x45), .slice A50 (l46).length c51, .int .i64 (0)] hle49 (by decide) rfl ⟨rfl, ⟨rfl, ⟨rfl, trivial⟩⟩⟩ rfl (.cons _ (.cons _ (.refl _))) ⟨A50, c51, hs52, rfl, rfl, h53⟩

set_option maxRecDepth 20000 in
theorem cFishkeep2Fares (b : Base) (R : Hp) (x27 : Bool) (hm : mFishkeep2Fares = some x27) :
    CallsG Tryz.prog 8 [] b (R) (fun v b' hp' => .bool (x27) = v ∧ R = hp') := by
  refine fn_enterG 25 Tryz.func8 rfl Tryz.ntmps8 rfl ?_
  unfold mFishkeep2Fares at hm
  refine c_sr ?_
  refine t_as rfl rfl ?_
  refine t_ne ?_
  refine c_sr ?_
  refine t_st rfl (st_build (v := .agg #[.int .i64 (3), .int .i64 (500)]) [(0, .int .i64 (3)), (1, .int .i64 (500))] rfl (fun _ => by kernel_rfl)) ?_
  refine t_do rfl (u_bslice (el := 60) [(0, .agg #[.int .i64 (3), .int .i64 (500)])] [.int .i64 (3), .int .i64 (500)] rfl (fun _ => by kernel_rfl)) ?_
  rintro _ _ ⟨g28, rfl, rfl⟩
  refine t_st rfl (st_build (v := .agg #[.int .i64 (1), .int .i64 (0), .int .i64 (0), .slice none 0 0]) [(0, .int .i64 (1))] rfl (fun _ => by kernel_rfl)) ?_
  refine t_st rfl (st_build (v := .agg #[.int .i64 (1), .int .i64 (0), .int .i64 (0), .slice none 0 0, .int .i64 (2), .int .i64 (7), .bool (false)]) [(0, .agg #[.int .i64 (1), .int .i64 (0), .int .i64 (0), .slice none 0 0]), (1, .int .i64 (2)), (2, .int .i64 (7))] rfl (fun _ => by kernel_rfl)) ?_
  refine t_do rfl (u_bslice (el := 65) [(0, .agg #[.int .i64 (1), .int .i64 (0), .int .i64 (0), .slice none 0 0, .int .i64 (2), .int .i64 (7), .bool (false)])] [.int .i64 (1), .int .i64 (0), .int .i64 (0), .slice none 0 0, .int .i64 (2), .int .i64 (7), .bool (false)] rfl (fun _ => by kernel_rfl)) ?_
  rintro _ _ ⟨g29, rfl, rfl⟩
  refine t_st rfl (st_build (v := .agg #[.bool (false), .slice (some ⟨g28, 0, none⟩) 1 1, .int .i64 (1), .slice (some ⟨g29, 0, none⟩) 1 1]) [(1, .slice (some ⟨g28, 0, none⟩) 1 1), (2, .int .i64 (1)), (3, .slice (some ⟨g29, 0, none⟩) 1 1)] rfl (fun _ => by kernel_rfl)) ?_
  refine t_do rfl (u_alloc [.bool false, .slice none 0 0, .int .i64 0, .slice none 0 0] zero52 rfl) ?_
  rintro _ _ ⟨g30, rfl, rfl⟩
  refine t_seg 2 [_, _] R rfl rfl ?_
  have h32 : OS 60 (OT.fr rFareBand) b.w (.slice (some ⟨g28, 0, none⟩) 1 1) [(⟨3, 500⟩ : FareBand)] [(g28, Cl 60 [.int .i64 (3), .int .i64 (500)])] := OS.lit [[.int .i64 (3), .int .i64 (500)]] rfl ⟨⟨[.int .i64 (3)], _, rfl, rfl, rfl⟩, trivial⟩ rfl (by decide)
  refine t_seg 1 [_] ([(g28, Cl 60 [.int .i64 (3), .int .i64 (500)])] ++ R) rfl rfl ?_
  have h34 : OS 65 (OT.fr rFareRule) b.w (.slice (some ⟨g29, 0, none⟩) 1 1) [(⟨(⟨1, 0, 0, ()⟩ : FareCond), 2, 7, false⟩ : FareRule)] [(g29, Cl 65 [.int .i64 (1), .int .i64 (0), .int .i64 (0), .slice none 0 0, .int .i64 (2), .int .i64 (7), .bool (false)])] := OS.lit [[.int .i64 (1), .int .i64 (0), .int .i64 (0), .slice none 0 0, .int .i64 (2), .int .i64 (7), .bool (false)]] rfl ⟨⟨[.int .i64 (1), .int .i64 (0), .int .i64 (0), .slice none 0 0], _, rfl, ⟨[.int .i64 (1)], _, rfl, rfl, ⟨[.int .i64 (0)], _, rfl, rfl, ⟨[.int .i64 (0)], _, rfl, rfl, rfl⟩⟩⟩, ⟨[.int .i64 (2)], _, rfl, rfl, ⟨[.int .i64 (7)], _, rfl, rfl, rfl⟩⟩⟩, trivial⟩ rfl (by decide)
  refine t_do rfl (u_storeN (vs := [_, _, _, _]) 0 4 rfl rfl rfl siz52 rfl (mem_c rfl (mem_c rfl (mem_c rfl (mem_c rfl mem_n)))) rfl (by simp)) ?_
  rintro _ _ rfl
  refine t_ne ?_
  refine c_sr ?_
  refine t_st rfl (st_loadD (vs := [_, _, _, _]) 0 4 rfl agg52 rfl rfl rfl) ?_
  refine t_do rfl (u_bslice (el := 3) [(0, .int .i64 (1))] [.int .i64 (1)] rfl (fun _ => by kernel_rfl)) ?_
  rintro _ _ ⟨g35, rfl, rfl⟩
  refine t_st rfl (st_build (v := .agg #[.int .i64 (0), .int .i64 (0), .int .i64 (0), .int .i64 (0), .bool (true), .slice (some ⟨g35, 0, none⟩) 1 1]) [(4, .bool (true)), (5, .slice (some ⟨g35, 0, none⟩) 1 1)] rfl (fun _ => by kernel_rfl)) ?_
  refine t_seg 0 [_] ([(g29, Cl 65 [.int .i64 (1), .int .i64 (0), .int .i64 (0), .slice none 0 0, .int .i64 (2), .int .i64 (7), .bool (false)])] ++ ([(g28, Cl 60 [.int .i64 (3), .int .i64 (500)])] ++ R)) rfl rfl ?_
  have h37 : OS 3 (OT.fr (RT.int .i64)) b.w (.slice (some ⟨g35, 0, none⟩) 1 1) [1] [(g35, Cl 3 [.int .i64 (1)])] := OS.lit [[.int .i64 (1)]] rfl ⟨rfl, trivial⟩ rfl (by decide)
  obtain ⟨⟨x38, x39, l40⟩, hcl41, hm⟩ := bindS hm
  have hm := (unc3E hm)
  refine t_do rfl (u_callWF [_] ([(g35, Cl 3 [.int .i64 (1)])] ++ ([(g29, Cl 65 [.int .i64 (1), .int .i64 (0), .int .i64 (0), .slice none 0 0, .int .i64 (2), .int .i64 (7), .bool (false)])] ++ ([(g28, Cl 60 [.int .i64 (3), .int .i64 (500)])] ++ R))) _ rfl call22 rfl (fun w ho => cFarePrice _ [] (⟨false, [(⟨3, 500⟩ : FareBand)], 1, [(⟨(⟨1, 0, 0, ()⟩ : FareCond), 2, 7, false⟩ : FareRule)]⟩ : FareTariff) (⟨0, 0, 0, 0, true, [1]⟩ : FareTrip) (some ⟨g28, 0, none⟩) 1 (some ⟨g29, 0, none⟩) 1 (some ⟨g35, 0, none⟩) 1 (OS.now (o := (OT.fr rFareBand)) (l := [(⟨3, 500⟩ : FareBand)]) (hs := [(g28, Cl 60 [.int .i64 (3), .int .i64 (500)])]) h32 ho (.cons _ (sub_skip [(g35, Cl 3 [.int .i64 (1)])] (sub_skip [(g29, Cl 65 [.int .i64 (1), .int .i64 (0), .int .i64 (0), .slice none 0 0, .int .i64 (2), .int .i64 (7), .bool (false)])] (List.sublist_append_left _ _))))) (OS.now (o := (OT.fr rFareRule)) (l := [(⟨(⟨1, 0, 0, ()⟩ : FareCond), 2, 7, false⟩ : FareRule)]) (hs := [(g29, Cl 65 [.int .i64 (1), .int .i64 (0), .int .i64 (0), .slice none 0 0, .int .i64 (2), .int .i64 (7), .bool (false)])]) h34 ho (.cons _ (sub_skip [(g35, Cl 3 [.int .i64 (1)])] (List.sublist_append_left _ _)))) (OS.now (o := (OT.fr (RT.int .i64))) (l := [1]) (hs := [(g35, Cl 3 [.int .i64 (1)])]) h37 ho (.cons _ (List.sublist_append_left _ _))) x38 x39 l40 hcl41)) ?_
  rintro _ _ ⟨_, _, rfl, A42, c43, hs44, rfl, hq47, h45⟩
  obtain rfl := List.append_cancel_right hq47
  have h46 := flat_fz (w' := b.w) (fun _ _ _ _ h => h) h45
  refine t_mv rfl rfl ?_
  refine t_st rfl (st_extract rfl rfl) ?_
  refine t_st rfl (st_extract rfl rfl) ?_
  refine t_st rfl (st_extract rfl rfl) ?_
  refine t_as rfl rfl ?_
  refine t_as rfl rfl ?_
  refine t_as rfl rfl ?_
  refine t_ne ?_
  obtain ⟨x51, hj52, hk52⟩ := bindS hm
  refine c_join (fun b49 e' hp' => [(0, .bool (x51))] = e' ∧ R = hp' ∧ b.Le b49) ?_ ?_
  ·
   have hm := hj52
   refine c_region ?_
   refine t_mv rfl rfl ?_
   refine t_bool rfl (st_eql rfl rfl) (fun hc53 => ?_) (fun hc53 => ?_)
   ·
    rw [if_pos hc53] at hm
    refine t_mv rfl rfl ?_
    refine t_yes 21 rfl rfl rfl ?_
    refine t_mv rfl rfl ?_
    refine t_yes 21 rfl rfl rfl ?_
    refine t_st rfl (st_eql rfl rfl) ?_
    refine t_st rfl (st_pick_t rfl rfl) ?_
    refine t_as rfl rfl ?_
    refine t_nil ?_
    obtain rfl := some1 hm
    exact x_join (e' := [(0, .bool (decide (x38 = 493)))]) ⟨rfl, trivial⟩ (.cons _ (sub_skip hs44 (sub_skip [(g35, Cl 3 [.int .i64 (1)])] (sub_skip [(g29, Cl 65 [.int .i64 (1), .int .i64 (0), .int .i64 (0), .slice none 0 0, .int .i64 (2), .int .i64 (7), .bool (false)])] (sub_skip [(g28, Cl 60 [.int .i64 (3), .int .i64 (500)])] (.refl _)))))) ⟨rfl, rfl, (Base.Le.refl _)⟩
   ·
    rw [if_neg hc53] at hm
    refine t_mv rfl rfl ?_
    refine t_no 21 rfl rfl rfl rfl rfl ?_
    refine t_no 21 rfl rfl rfl rfl rfl ?_
    refine t_st rfl (st_pick_f rfl rfl) ?_
    refine t_as rfl rfl ?_
    refine t_nil ?_
    obtain rfl := some1 hm
    exact x_join (e' := [(0, .bool (false))]) ⟨rfl, trivial⟩ (.cons _ (sub_skip hs44 (sub_skip [(g35, Cl 3 [.int .i64 (1)])] (sub_skip [(g29, Cl 65 [.int .i64 (1), .int .i64 (0), .int .i64 (0), .slice none 0 0, .int .i64 (2), .int .i64 (7), .bool (false)])] (sub_skip [(g28, Cl 60 [.int .i64 (3), .int .i64 (500)])] (.refl _)))))) ⟨rfl, rfl, (Base.Le.refl _)⟩
  ·
   rintro b49 _ _ ⟨rfl, rfl, hle50⟩
   have hm := hk52
   refine c_ret ?_
   obtain rfl := some1 hm
   exact retM (rs := [.tmp 0]) [.bool (x51)] hle50 (by decide) rfl ⟨rfl, trivial⟩ rfl (.refl _) ⟨rfl, rfl⟩

set_option maxRecDepth 20000 in
theorem cFishref2Within (b : Base) (R : Hp) (x1 : Int) (x2 : Int) (x3 : Int) (x10 : Bool) (hm : mFishref2Within x1 x2 x3 = some x10) :
    CallsG Tryz.prog 27 [.int .i64 (x1), .int .i64 (x2), .int .i64 (x3)] b (R) (fun v b' hp' => .bool (x10) = v ∧ R = hp') := by
  refine fn_enterG 15 Tryz.func27 rfl Tryz.ntmps27 rfl ?_
  unfold mFishref2Within at hm
  refine c_sr ?_
  refine t_as rfl rfl ?_
  refine t_ne ?_
  obtain ⟨x14, hj15, hk15⟩ := bindS hm
  refine c_join (fun b12 e' hp' => [(6, .bool (x14))] = e' ∧ R = hp' ∧ b.Le b12) ?_ ?_
  ·
   have hm := hj15
   refine c_region ?_
   refine t_mv rfl rfl ?_
   refine t_mv rfl rfl ?_
   refine t_bool rfl (st_geq rfl rfl) (fun hc16 => ?_) (fun hc16 => ?_)
   ·
    rw [if_pos hc16] at hm
    refine t_mv rfl rfl ?_
    refine t_yes 10 rfl rfl rfl ?_
    refine t_mv rfl rfl ?_
    refine t_yes 10 rfl rfl rfl ?_
    refine t_mv rfl rfl ?_
    refine t_yes 10 rfl rfl rfl ?_
    refine t_st rfl (st_leq rfl rfl) ?_
    refine t_st rfl (st_pick_t rfl rfl) ?_
    refine t_as rfl rfl ?_
    refine t_nil ?_
    obtain rfl := some1 hm
    exact x_join (e' := [(6, .bool (decide (x1 ≤ x3)))]) ⟨rfl, trivial⟩ (.refl _) ⟨rfl, rfl, (Base.Le.refl _)⟩
   ·
    rw [if_neg hc16] at hm
    refine t_mv rfl rfl ?_
    refine t_no 10 rfl rfl rfl rfl rfl ?_
    refine t_no 10 rfl rfl rfl rfl rfl ?_
    refine t_no 10 rfl rfl rfl rfl rfl ?_
    refine t_st rfl (st_pick_f rfl rfl) ?_
    refine t_as rfl rfl ?_
    refine t_nil ?_
    obtain rfl := some1 hm
    exact x_join (e' := [(6, .bool (false))]) ⟨rfl, trivial⟩ (.refl _) ⟨rfl, rfl, (Base.Le.refl _)⟩
  ·
   rintro b12 _ _ ⟨rfl, rfl, hle13⟩
   have hm := hk15
   refine c_ret ?_
   obtain rfl := some1 hm
   exact retM (rs := [.tmp 6]) [.bool (x14)] hle13 (by decide) rfl ⟨rfl, trivial⟩ rfl (.refl _) ⟨rfl, rfl⟩

set_option maxRecDepth 20000 in
theorem cFishref2SharesFault (b : Base) (R : Hp) (x1 : Int) (l5 : (List Int)) (A2 : Option Addr) (c3 : Nat) (h4 : FZ (RT.int .i64) b.w A2 c3 l5) (x67 : Int) (hm : mFishref2SharesFault x1 l5 = some x67) :
    CallsG Tryz.prog 13 [.int .i64 (x1), .slice A2 (l5).length c3] b (R) (fun v b' hp' => .int .i64 (x67) = v ∧ R = hp') := by
  refine fn_enterG 30 Tryz.func13 rfl Tryz.ntmps13 rfl ?_
  unfold mFishref2SharesFault at hm
  refine c_sr ?_
  refine t_as rfl rfl ?_
  refine t_ne ?_
  refine c_seq ?_
  refine c_sr ?_
  refine t_mv rfl rfl ?_
  obtain ⟨x68, hcl69, hm⟩ := bindS hm
  refine t_do rfl (u_callW0 _ call27 rfl (fun w ho => cFishref2Within _ [] x1 0 100000 x68 hcl69) (fun _ _ _ h => h.2.symm)) ?_
  rintro _ _ ⟨⟨_, rfl, _⟩, rfl⟩
  refine t_st rfl (st_not rfl) ?_
  refine t_ne ?_
  refine c_cond _ rfl (fun hc70 => ?_) (fun hc70 => ?_)
  ·
   rw [if_neg (fun hh => Bool.noConfusion (hh.symm.trans (notT hc70)))] at hm
   refine c_sr ?_
   refine t_as rfl rfl ?_
   refine t_ne ?_
   refine c_ret ?_
   refine x_then_ret ?_
   obtain rfl := some1 hm
   exact retM (rs := [.tmp 4]) [.int .i64 (2)] (Base.Le.refl _) (by decide) rfl ⟨rfl, trivial⟩ rfl (.refl _) ⟨rfl, rfl⟩
  ·
   rw [if_pos (notF hc70)] at hm
   refine c_skip ?_
   refine x_then_normal ?_
   refine c_seq ?_
   refine c_sr ?_
   refine t_mv rfl rfl ?_
   refine t_st rfl (st_len rfl sl22) ?_
   obtain ⟨x71, hcl72, hm⟩ := bindS hm
   refine t_do rfl (u_callW0 _ call27 rfl (fun w ho => cFishref2Within _ [] (l5.length : Int) 1 6 x71 hcl72) (fun _ _ _ h => h.2.symm)) ?_
   rintro _ _ ⟨⟨_, rfl, _⟩, rfl⟩
   refine t_st rfl (st_not rfl) ?_
   refine t_ne ?_
   refine c_cond _ rfl (fun hc73 => ?_) (fun hc73 => ?_)
   ·
    rw [if_neg (fun hh => Bool.noConfusion (hh.symm.trans (notT hc73)))] at hm
    refine c_sr ?_
    refine t_as rfl rfl ?_
    refine t_ne ?_
    refine c_ret ?_
    refine x_then_ret ?_
    obtain rfl := some1 hm
    exact retM (rs := [.tmp 4]) [.int .i64 (4)] (Base.Le.refl _) (by decide) rfl ⟨rfl, trivial⟩ rfl (.refl _) ⟨rfl, rfl⟩
   ·
    rw [if_pos (notF hc73)] at hm
    refine c_skip ?_
    refine x_then_normal ?_
    refine c_sr ?_
    refine t_as rfl rfl ?_
    refine t_ne ?_
    refine c_seq ?_
    refine c_sr ?_
    refine t_mv rfl rfl ?_
    refine t_st rfl (st_len rfl sl22) ?_
    refine t_mv rfl rfl ?_
    refine t_ne ?_
    refine c_block ?_
    have hb75 : l5.length ≤ 9223372036854775807 := (FZ.bd h4)
    obtain ⟨t109, hl110, hk111⟩ := bindS hm
    refine c_forM (fun k108 => fun x107 => fun b105 e' hp' => [(5, .int .i64 (x107)), (15, .slice A2 (l5).length c3), (16, .int .i64 ((l5.length : Int))), (17, .int .i64 ((k108 : Int)))] = e' ∧ R = hp' ∧ b.Le b105) hl110 (e' := [(5, .int .i64 (0)), (15, .slice A2 (l5).length c3), (16, .int .i64 ((l5.length : Int))), (17, .int .i64 0)]) ⟨rfl, rfl, rfl, rfl, trivial⟩ (.refl _) ⟨rfl, rfl, (Base.Le.refl _)⟩ ?_ ?_
    ·
     rintro k108 x107 b105 _ _ oL74 hknL74 ⟨rfl, rfl, hle106⟩ hstepL74 houtL74
     unfold mFishref2SharesFault_L74 at hstepL74
     have hm := hstepL74
     refine c_sr ?_
     refine t_st rfl (st_lss_t rfl rfl (by omega)) ?_
     refine t_ne ?_
     refine c_seq ?_
     refine c_cond_t rfl ?_
     refine c_skip ?_
     refine x_then_normal ?_
     refine c_seq ?_
     refine c_block ?_
     refine c_sr ?_
     obtain ⟨x112, h113, hm⟩ := bindS hm
     obtain ⟨j114, hj115, hx116⟩ := idx_some h113
     obtain ⟨cs117, hr118, hcs119, hA120, hlt121⟩ := FZ.get (sz := 1) rfl (by decide) (h4.le hle106) hx116
     obtain rfl := hr118
     refine t_st rfl (st_index_old j114 rfl rfl hj115 hlt121 hA120 sl22) ?_
     refine t_st rfl (st_load_old rfl one3 (hcs119 0 _ rfl)) ?_
     refine t_as rfl rfl ?_
     refine t_ne ?_
     refine c_seq ?_
     refine c_sr ?_
     refine t_mv rfl rfl ?_
     obtain ⟨x122, hcl123, hm⟩ := bindS hm
     refine t_do rfl (u_callW0 _ call27 rfl (fun w ho => cFishref2Within _ [] x112 0 10000 x122 hcl123) (fun _ _ _ h => h.2.symm)) ?_
     rintro _ _ ⟨⟨_, rfl, _⟩, rfl⟩
     refine t_st rfl (st_not rfl) ?_
     refine t_ne ?_
     refine c_cond _ rfl (fun hc124 => ?_) (fun hc124 => ?_)
     ·
      rw [if_neg (fun hh => Bool.noConfusion (hh.symm.trans (notT hc124)))] at hm
      refine c_sr ?_
      refine t_as rfl rfl ?_
      refine t_ne ?_
      refine c_ret ?_
      refine x_then_ret ?_
      refine x_block_ret ?_
      refine x_then_ret ?_
      refine x_then_ret ?_
      refine x_block_ret ?_
      refine x_then_ret ?_
      have hq125 := houtL74 _ (Option.some.inj hm).symm
      rw [hq125] at hk111
      have hm := elimR hk111
      obtain rfl := some1 hm
      exact retM (rs := [.tmp 4]) [.int .i64 (2)] hle106 (by decide) rfl ⟨rfl, trivial⟩ rfl (.refl _) ⟨rfl, rfl⟩
     ·
      rw [if_pos (notF hc124)] at hm
      refine c_skip ?_
      refine x_then_normal ?_
      refine c_region ?_
      refine t_mv rfl rfl ?_
      refine t_mv rfl rfl ?_
      obtain ⟨_, h126, hm⟩ := bindS hm
      have h126 := (chk_some h126).2
      refine t_st rfl (st_add rfl rfl h126) ?_
      refine t_as rfl rfl ?_
      refine t_nil ?_
      refine x_block_normal ?_
      refine x_then_normal ?_
      refine c_region ?_
      refine t_st rfl (st_add rfl rfl (by omega)) ?_
      refine t_mv rfl rfl ?_
      refine t_nil ?_
      exact x_againM (x107 + x112) (Option.some.inj hm).symm (e' := [(5, .int .i64 (x107 + x112)), (15, .slice A2 (l5).length c3), (16, .int .i64 ((l5.length : Int))), (17, .int .i64 ((k108 : Int) + 1))]) ⟨rfl, rfl, rfl, rfl, trivial⟩ (.refl _) ⟨rfl, rfl, (hle106)⟩
    ·
     rintro x107 b105 _ _ ⟨rfl, rfl, hle106⟩ hq127
     rw [hq127] at hk111
     have hm := elimL hk111
     refine c_sr ?_
     refine t_st rfl (st_lss_f rfl rfl (by omega)) ?_
     refine t_ne ?_
     refine c_seq ?_
     refine c_cond_f rfl ?_
     refine c_exit ?_
     refine x_then_exit ?_
     refine x_then_exit ?_
     refine x_block_out ?_
     refine x_then_normal ?_
     refine c_seq ?_
     refine c_sr ?_
     refine t_mv rfl rfl ?_
     refine t_st rfl (st_eql rfl rfl) ?_
     refine t_ne ?_
     refine c_cond _ rfl (fun hc128 => ?_) (fun hc128 => ?_)
     ·
      rw [if_pos (of_decide_eq_true hc128)] at hm
      refine c_sr ?_
      refine t_as rfl rfl ?_
      refine t_ne ?_
      refine c_ret ?_
      refine x_then_ret ?_
      obtain rfl := some1 hm
      exact retM (rs := [.tmp 4]) [.int .i64 (1)] hle106 (by decide) rfl ⟨rfl, trivial⟩ rfl (.refl _) ⟨rfl, rfl⟩
     ·
      rw [if_neg (of_decide_eq_false hc128)] at hm
      refine c_skip ?_
      refine x_then_normal ?_
      refine c_sr ?_
      refine t_as rfl rfl ?_
      refine t_ne ?_
      refine c_ret ?_
      obtain rfl := some1 hm
      exact retM (rs := [.tmp 4]) [.int .i64 (0)] hle106 (by decide) rfl ⟨rfl, trivial⟩ rfl (.refl _) ⟨rfl, rfl⟩

set_option maxRecDepth 20000 in
theorem cCmpIsNaN (b : Base) (R : Hp) (x1 : Int) (x2 : Bool) (hm : mCmpIsNaN x1 = some x2) :
    CallsG Tryz.prog 55 [.int .i64 (x1)] b (R) (fun v b' hp' => .bool (x2) = v ∧ R = hp') := by
  refine fn_enterG 6 Tryz.func55 rfl Tryz.ntmps55 rfl ?_
  unfold mCmpIsNaN at hm
  refine c_sr ?_
  refine t_as rfl rfl ?_
  refine t_ne ?_
  refine c_sr ?_
  refine t_mv rfl rfl ?_
  refine t_mv rfl rfl ?_
  refine t_st rfl (st_neq rfl rfl) ?_
  refine t_as rfl rfl ?_
  refine t_ne ?_
  refine c_ret ?_
  obtain rfl := some1 hm
  exact retM (rs := [.tmp 2]) [.bool (decide (x1 ≠ x1))] (Base.Le.refl _) (by decide) rfl ⟨rfl, trivial⟩ rfl (.refl _) ⟨rfl, rfl⟩

set_option maxRecDepth 20000 in
theorem cCmpCompare (b : Base) (R : Hp) (x1 : Int) (x2 : Int) (x12 : Int) (hm : mCmpCompare x1 x2 = some x12) :
    CallsG Tryz.prog 34 [.int .i64 (x1), .int .i64 (x2)] b (R) (fun v b' hp' => .int .i64 (x12) = v ∧ R = hp') := by
  refine fn_enterG 20 Tryz.func34 rfl Tryz.ntmps34 rfl ?_
  unfold mCmpCompare at hm
  refine c_sr ?_
  refine t_as rfl rfl ?_
  refine t_ne ?_
  refine c_sr ?_
  refine t_mv rfl rfl ?_
  obtain ⟨x13, hcl14, hm⟩ := bindS hm
  refine t_do rfl (u_callW0 _ call55 rfl (fun w ho => cCmpIsNaN _ [] x1 x13 hcl14) (fun _ _ _ h => h.2.symm)) ?_
  rintro _ _ ⟨⟨_, rfl, _⟩, rfl⟩
  refine t_as rfl rfl ?_
  refine t_ne ?_
  refine c_sr ?_
  refine t_mv rfl rfl ?_
  obtain ⟨x15, hcl16, hm⟩ := bindS hm
  refine t_do rfl (u_callW0 _ call55 rfl (fun w ho => cCmpIsNaN _ [] x2 x15 hcl16) (fun _ _ _ h => h.2.symm)) ?_
  rintro _ _ ⟨⟨_, rfl, _⟩, rfl⟩
  refine t_as rfl rfl ?_
  refine t_ne ?_
  refine c_seq ?_
  refine c_sr ?_
  refine t_mv rfl rfl ?_
  refine t_ne ?_
  refine c_cond _ rfl (fun hc17 => ?_) (fun hc17 => ?_)
  ·
   rw [if_pos hc17] at hm
   refine c_seq ?_
   refine c_sr ?_
   refine t_mv rfl rfl ?_
   refine t_ne ?_
   refine c_cond _ rfl (fun hc18 => ?_) (fun hc18 => ?_)
   ·
    rw [if_pos hc18] at hm
    refine c_sr ?_
    refine t_as rfl rfl ?_
    refine t_ne ?_
    refine c_ret ?_
    refine x_then_ret ?_
    refine x_then_ret ?_
    obtain rfl := some1 hm
    exact retM (rs := [.tmp 4]) [.int .i64 (0)] (Base.Le.refl _) (by decide) rfl ⟨rfl, trivial⟩ rfl (.refl _) ⟨rfl, rfl⟩
   ·
    rw [if_neg (fun hh => Bool.noConfusion (hh.symm.trans hc18))] at hm
    refine c_skip ?_
    refine x_then_normal ?_
    refine c_sr ?_
    refine t_as rfl rfl ?_
    refine t_ne ?_
    refine c_ret ?_
    refine x_then_ret ?_
    obtain rfl := some1 hm
    exact retM (rs := [.tmp 4]) [.int .i64 ((-1))] (Base.Le.refl _) (by decide) rfl ⟨rfl, trivial⟩ rfl (.refl _) ⟨rfl, rfl⟩
  ·
   rw [if_neg (fun hh => Bool.noConfusion (hh.symm.trans hc17))] at hm
   refine c_skip ?_
   refine x_then_normal ?_
   refine c_seq ?_
   refine c_sr ?_
   refine t_mv rfl rfl ?_
   refine t_ne ?_
   refine c_cond _ rfl (fun hc19 => ?_) (fun hc19 => ?_)
   ·
    rw [if_pos hc19] at hm
    refine c_sr ?_
    refine t_as rfl rfl ?_
    refine t_ne ?_
    refine c_ret ?_
    refine x_then_ret ?_
    obtain rfl := some1 hm
    exact retM (rs := [.tmp 4]) [.int .i64 (1)] (Base.Le.refl _) (by decide) rfl ⟨rfl, trivial⟩ rfl (.refl _) ⟨rfl, rfl⟩
   ·
    rw [if_neg (fun hh => Bool.noConfusion (hh.symm.trans hc19))] at hm
    refine c_skip ?_
    refine x_then_normal ?_
    refine c_seq ?_
    refine c_sr ?_
    refine t_mv rfl rfl ?_
    refine t_mv rfl rfl ?_
    refine t_st rfl (st_lss rfl rfl) ?_
    refine t_ne ?_
    refine c_cond _ rfl (fun hc20 => ?_) (fun hc20 => ?_)
    ·
     rw [if_pos (of_decide_eq_true hc20)] at hm
     refine c_sr ?_
     refine t_as rfl rfl ?_
     refine t_ne ?_
     refine c_ret ?_
     refine x_then_ret ?_
     obtain rfl := some1 hm
     exact retM (rs := [.tmp 4]) [.int .i64 ((-1))] (Base.Le.refl _) (by decide) rfl ⟨rfl, trivial⟩ rfl (.refl _) ⟨rfl, rfl⟩
    ·
     rw [if_neg (of_decide_eq_false hc20)] at hm
     refine c_skip ?_
     refine x_then_normal ?_
     refine c_seq ?_
     refine c_sr ?_
     refine t_mv rfl rfl ?_
     refine t_mv rfl rfl ?_
     refine t_st rfl (st_gtr rfl rfl) ?_
     refine t_ne ?_
     refine c_cond _ rfl (fun hc21 => ?_) (fun hc21 => ?_)
     ·
      rw [if_pos (of_decide_eq_true hc21)] at hm
      refine c_sr ?_
      refine t_as rfl rfl ?_
      refine t_ne ?_
      refine c_ret ?_
      refine x_then_ret ?_
      obtain rfl := some1 hm
      exact retM (rs := [.tmp 4]) [.int .i64 (1)] (Base.Le.refl _) (by decide) rfl ⟨rfl, trivial⟩ rfl (.refl _) ⟨rfl, rfl⟩
     ·
      rw [if_neg (of_decide_eq_false hc21)] at hm
      refine c_skip ?_
      refine x_then_normal ?_
      refine c_sr ?_
      refine t_as rfl rfl ?_
      refine t_ne ?_
      refine c_ret ?_
      obtain rfl := some1 hm
      exact retM (rs := [.tmp 4]) [.int .i64 (0)] (Base.Le.refl _) (by decide) rfl ⟨rfl, trivial⟩ rfl (.refl _) ⟨rfl, rfl⟩

set_option maxRecDepth 20000 in
theorem cFareShares_1 (b : Base) (R : Hp) (x4 : Int) (x5 : Int) (x6 : Int) (l10 : (List Int)) (x11 : Int) (g1 : Nat) (g2 : Nat) (g3 : Nat) (A7 : Option Addr) (c8 : Nat) (h9 : FZ (RT.int .i64) b.w A7 c8 l10) (x64 : Int) (hm : mFareShares_1 x4 x5 x6 l10 x11 = some x64) :
    CallsG Tryz.prog 33 [.int .i64 (x4), .int .i64 (x5), .pointer (some ⟨g1, 0, none⟩), .pointer (some ⟨g2, 0, none⟩), .pointer (some ⟨g3, 0, none⟩)] b ((g1, Cl 3 [.int .i64 (x6)]) :: (g2, Cl 22 [.slice A7 (l10).length c8]) :: (g3, Cl 3 [.int .i64 (x11)]) :: R) (fun v b' hp' => .int .i64 (x64) = v ∧ (g1, Cl 3 [.int .i64 (x6)]) :: (g2, Cl 22 [.slice A7 (l10).length c8]) :: (g3, Cl 3 [.int .i64 (x11)]) :: R = hp') := by
  refine fn_enterG 25 Tryz.func33 rfl Tryz.ntmps33 rfl ?_
  unfold mFareShares_1 at hm
  refine c_sr ?_
  refine t_as rfl rfl ?_
  refine t_ne ?_
  refine c_seq ?_
  obtain ⟨x91, h92, hm⟩ := bindS hm
  obtain ⟨_, h101, hm⟩ := bindS hm
  obtain ⟨_, h102, hm⟩ := bindS hm
  obtain ⟨x103, h104, hm⟩ := bindS hm
  obtain ⟨_, h113, hm⟩ := bindS hm
  obtain ⟨_, h114, hm⟩ := bindS hm
  obtain ⟨x115, hcl116, hm⟩ := bindS hm
  refine D_drawI mixed (.refl _) ?_
  refine E_st 0 rfl (st_load 0 rfl one3 rfl rfl) ?_
  refine E_st 1 rfl (st_load 1 rfl one22 rfl rfl) ?_
  refine E_st 2 rfl (st_move rfl) ?_
  obtain ⟨j93, hj94, hx95⟩ := idx_some h92
  obtain ⟨cs96, hr97, hcs98, hA99, hlt100⟩ := FZ.get (sz := 1) rfl (by decide) h9 hx95
  obtain rfl := hr97
  refine E_st 3 rfl (st_index_old j93 rfl rfl hj94 hlt100 hA99 sl22) ?_
  refine E_st 4 rfl (st_load_old rfl one3 (hcs98 0 _ rfl)) ?_
  have h101 := (chk_some h101).2
  refine E_st 5 rfl (st_mul rfl rfl h101) ?_
  refine E_st 6 rfl (st_load 2 rfl one3 rfl rfl) ?_
  refine E_st 7 rfl (st_rem rfl rfl (ne0_some h102)) ?_
  refine E_st 8 rfl (st_load 0 rfl one3 rfl rfl) ?_
  refine E_st 9 rfl (st_load 1 rfl one22 rfl rfl) ?_
  refine E_st 10 rfl (st_move rfl) ?_
  obtain ⟨j105, hj106, hx107⟩ := idx_some h104
  obtain ⟨cs108, hr109, hcs110, hA111, hlt112⟩ := FZ.get (sz := 1) rfl (by decide) h9 hx107
  obtain rfl := hr109
  refine E_st 11 rfl (st_index_old j105 rfl rfl hj106 hlt112 hA111 sl22) ?_
  refine E_st 12 rfl (st_load_old rfl one3 (hcs110 0 _ rfl)) ?_
  have h113 := (chk_some h113).2
  refine E_st 13 rfl (st_mul rfl rfl h113) ?_
  refine E_st 14 rfl (st_load 2 rfl one3 rfl rfl) ?_
  refine E_st 15 rfl (st_rem rfl rfl (ne0_some h114)) ?_
  refine E_out ?_
  refine D_all [16] (by kernel_rfl) rfl ?_
  refine R_do (Base.Le.refl _) rfl rfl (u_callW0 _ call34 rfl (fun w ho => cCmpCompare _ [] (Int.tmod (x6 * x91) x11) (Int.tmod (x6 * x103) x11) x115 hcl116) (fun _ _ _ h => h.2.symm)) ?_ ?_
  ·
   rintro _ _ ⟨⟨_, rfl, _⟩, rfl⟩
   refine ⟨.inr (.refl _), ?_⟩
   refine E_in (.refl _) ?_
   refine E_st 17 rfl (st_assign rfl) ?_
   refine E_out ?_
   refine D_done (by kernel_rfl) ?_
   refine x_then_normal ?_
   refine c_ret ?_
   obtain rfl := some1 hm
   refine x_pullb 2 rfl ?_
   refine x_pullb 2 rfl ?_
   refine x_pullb 2 rfl ?_
   exact retM (rs := [.tmp 7]) [.int .i64 (x115)] (Base.Le.refl _) (by decide) rfl ⟨rfl, trivial⟩ rfl (.refl _) ⟨rfl, rfl⟩
  exact R_nil

set_option maxRecDepth 20000 in
theorem cSlicesInsertionSortCmpFunc (b : Base) (R : Hp) (x9 : Int) (x10 : Int) (x11 : Int) (l15 : (List Int)) (x16 : Int) (l17 : (List Int)) (g6 : Nat) (g7 : Nat) (g8 : Nat) (A12 : Option Addr) (c13 : Nat) (A3 : Option Addr) (c4 : Nat) (hs2 : Hp) (h14 : FZ (RT.int .i64) b.w A12 c13 l15) (h5 : OS 3 (OT.fr (RT.int .i64)) b.w (.slice A3 l17.length c4) l17 hs2) (l5539 : (List Int)) (hm : mSlicesInsertionSortCmpFunc x9 x10 x11 l15 x16 l17 = some l5539) :
    CallsG Tryz.prog 72 [.slice A3 (l17).length c4, .int .i64 (x9), .int .i64 (x10), .func (.func 33) #[] #[.pointer (some ⟨g6, 0, none⟩), .pointer (some ⟨g7, 0, none⟩), .pointer (some ⟨g8, 0, none⟩)]] b ((g6, Cl 3 [.int .i64 (x11)]) :: (g7, Cl 22 [.slice A12 (l15).length c13]) :: (g8, Cl 3 [.int .i64 (x16)]) :: (hs2 ++ R)) (fun v b' hp' => ∃ (hs5537 : Hp), .tuple #[] = v ∧ (g6, Cl 3 [.int .i64 (x11)]) :: (g7, Cl 22 [.slice A12 (l15).length c13]) :: (g8, Cl 3 [.int .i64 (x16)]) :: (hs5537 ++ R) = hp' ∧ OS 3 (OT.fr (RT.int .i64)) b'.w (.slice A3 l5539.length c4) l5539 hs5537 ∧ l5539.length = l17.length) := by
  refine fn_enterG 53 Tryz.func72 rfl Tryz.ntmps72 rfl ?_
  unfold mSlicesInsertionSortCmpFunc at hm
  refine c_sr ?_
  refine t_mv rfl rfl ?_
  obtain ⟨_, h5541, hm⟩ := bindS hm
  have h5541 := (chk_some h5541).2
  refine t_st rfl (st_add rfl rfl h5541) ?_
  refine t_as rfl rfl ?_
  refine t_ne ?_
  refine c_block ?_
  refine c_pullb 2 rfl ?_
  refine c_pullb 2 rfl ?_
  refine c_pullb 2 rfl ?_
  refine c_loopM (unc2 fun x9222 l9223 => fun b9217 e' hp' => ∃ (hs9220 : Hp), [(0, .slice A3 (l9223).length c4), (1, .int .i64 (x9)), (2, .int .i64 (x10)), (3, .func (.func 33) #[] #[.pointer (some ⟨g6, 0, none⟩), .pointer (some ⟨g7, 0, none⟩), .pointer (some ⟨g8, 0, none⟩)]), (8, .int .i64 (x9222))] = e' ∧ (g6, Cl 3 [.int .i64 (x11)]) :: (g7, Cl 22 [.slice A12 (l15).length c13]) :: (g8, Cl 3 [.int .i64 (x16)]) :: (hs9220 ++ R) = hp' ∧ b.Le b9217 ∧ OS 3 (OT.fr (RT.int .i64)) b9217.w (.slice A3 l9223.length c4) l9223 hs9220 ∧ l9223.length = l17.length) hm (e' := [(0, .slice A3 (l17).length c4), (1, .int .i64 (x9)), (2, .int .i64 (x10)), (3, .func (.func 33) #[] #[.pointer (some ⟨g6, 0, none⟩), .pointer (some ⟨g7, 0, none⟩), .pointer (some ⟨g8, 0, none⟩)]), (8, .int .i64 (x9 + 1))]) ⟨rfl, rfl, rfl, rfl, rfl, trivial⟩ (.refl _) ⟨hs2, rfl, rfl, (Base.Le.refl _), h5, rfl⟩ ?_
  rintro ⟨x9222, l9223⟩ b9217 _ _ oL5542 ⟨hs9220, rfl, rfl, hle9218, h9221, hln9224⟩ hstepL5542 houtL5542
  unfold mSlicesInsertionSortCmpFunc_L5542 at hstepL5542
  have hm := (unc2E hstepL5542)
  refine c_seq ?_
  refine c_sr ?_
  refine t_mv rfl rfl ?_
  refine t_mv rfl rfl ?_
  refine t_st rfl (st_lss rfl rfl) ?_
  refine t_ne ?_
  refine c_cond _ rfl (fun hc9225 => ?_) (fun hc9225 => ?_)
  ·
   rw [if_pos (of_decide_eq_true hc9225)] at hm
   refine c_skip ?_
   refine x_then_normal ?_
   obtain ⟨l10143, hj10145, hk10145⟩ := bindS hm
   refine c_join (fun b10138 e' hp' => ∃ (hs10141 : Hp), [(0, .slice A3 (l10143).length c4), (1, .int .i64 (x9)), (2, .int .i64 (x10)), (3, .func (.func 33) #[] #[.pointer (some ⟨g6, 0, none⟩), .pointer (some ⟨g7, 0, none⟩), .pointer (some ⟨g8, 0, none⟩)]), (8, .int .i64 (x9222))] = e' ∧ (g6, Cl 3 [.int .i64 (x11)]) :: (g7, Cl 22 [.slice A12 (l15).length c13]) :: (g8, Cl 3 [.int .i64 (x16)]) :: (hs10141 ++ R) = hp' ∧ b9217.Le b10138 ∧ OS 3 (OT.fr (RT.int .i64)) b10138.w (.slice A3 l10143.length c4) l10143 hs10141 ∧ l10143.length = l17.length) ?_ ?_
   ·
    have hm := hj10145
    refine c_block ?_
    refine c_sr ?_
    refine t_mv rfl rfl ?_
    refine t_as rfl rfl ?_
    refine t_ne ?_
    refine c_block ?_
    refine c_pullb 2 rfl ?_
    refine c_pullb 2 rfl ?_
    refine c_pullb 2 rfl ?_
    refine c_loopM (unc2 fun x10756 l10757 => fun b10751 e' hp' => ∃ (hs10754 : Hp), [(0, .slice A3 (l10757).length c4), (1, .int .i64 (x9)), (2, .int .i64 (x10)), (3, .func (.func 33) #[] #[.pointer (some ⟨g6, 0, none⟩), .pointer (some ⟨g7, 0, none⟩), .pointer (some ⟨g8, 0, none⟩)]), (8, .int .i64 (x9222)), (9, .int .i64 (x10756))] = e' ∧ (g6, Cl 3 [.int .i64 (x11)]) :: (g7, Cl 22 [.slice A12 (l15).length c13]) :: (g8, Cl 3 [.int .i64 (x16)]) :: (hs10754 ++ R) = hp' ∧ b9217.Le b10751 ∧ OS 3 (OT.fr (RT.int .i64)) b10751.w (.slice A3 l10757.length c4) l10757 hs10754 ∧ l10757.length = l17.length) hm (e' := [(0, .slice A3 (l9223).length c4), (1, .int .i64 (x9)), (2, .int .i64 (x10)), (3, .func (.func 33) #[] #[.pointer (some ⟨g6, 0, none⟩), .pointer (some ⟨g7, 0, none⟩), .pointer (some ⟨g8, 0, none⟩)]), (8, .int .i64 (x9222)), (9, .int .i64 (x9222))]) ⟨rfl, rfl, rfl, rfl, rfl, rfl, trivial⟩ (.refl _) ⟨hs9220, rfl, rfl, (Base.Le.refl _), h9221, hln9224⟩ ?_
    rintro ⟨x10756, l10757⟩ b10751 _ _ oL10146 ⟨hs10754, rfl, rfl, hle10752, h10755, hln10758⟩ hstepL10146 houtL10146
    unfold mSlicesInsertionSortCmpFunc_L10146 at hstepL10146
    have hm := (unc2E hstepL10146)
    refine c_seq ?_
    obtain ⟨x10837, hj10838, hk10838⟩ := bindS hm
    refine c_join (fun b10835 e' hp' => [(0, .slice A3 (l10757).length c4), (1, .int .i64 (x9)), (2, .int .i64 (x10)), (3, .func (.func 33) #[] #[.pointer (some ⟨g6, 0, none⟩), .pointer (some ⟨g7, 0, none⟩), .pointer (some ⟨g8, 0, none⟩)]), (8, .int .i64 (x9222)), (9, .int .i64 (x10756)), (34, .bool (x10837))] = e' ∧ (g6, Cl 3 [.int .i64 (x11)]) :: (g7, Cl 22 [.slice A12 (l15).length c13]) :: (g8, Cl 3 [.int .i64 (x16)]) :: (hs10754 ++ R) = hp' ∧ b10751.Le b10835) ?_ ?_
    ·
     have hm := hj10838
     by_cases hc10877 : x9 < x10756
     ·
      rw [if_pos hc10877] at hm
      obtain ⟨x10878, h10879, hm⟩ := bindS hm
      obtain ⟨_, h10894, hm⟩ := bindS hm
      obtain ⟨x10895, h10896, hm⟩ := bindS hm
      obtain ⟨x10911, hcl10912, hm⟩ := bindS hm
      refine D_drawI mixed (.cons _ (.cons _ (.cons _ (.refl _)))) ?_
      refine E_st 0 rfl (st_move rfl) ?_
      refine E_st 1 rfl (st_move rfl) ?_
      refine E_st 2 rfl (st_gtr_t rfl rfl hc10877) ?_
      refine E_st 3 rfl (st_move rfl) ?_
      refine E_yes 4 21 rfl (st_move rfl) ?_
      refine E_yes 5 21 rfl (st_move rfl) ?_
      refine E_yes 6 21 rfl (st_move rfl) ?_
      obtain ⟨j10880, hj10881, hx10882⟩ := idx_some h10879
      obtain ⟨cs10883, hs10888, P10889, P10890, hq10891, hr10884, hcs10885, hA10886, hlt10887, hb10892, hho10893⟩ := OS.get (sz := 1) rfl (by decide) h10755 hx10882
      obtain ⟨rfl, rfl⟩ := hr10884
      refine E_yes 7 21 rfl (st_index_old j10880 rfl rfl hj10881 hlt10887 hA10886 sl22) ?_
      refine E_yes 8 21 rfl (st_load_rd rfl one3 (fun w ho => hcs10885 w _ ho (List.sublist_append_left _ _) 0 _ rfl)) ?_
      refine E_yes 9 21 rfl (st_move rfl) ?_
      refine E_yes 10 21 rfl (st_move rfl) ?_
      have h10894 := (chk_some h10894).2
      refine E_yes 11 21 rfl (st_sub rfl rfl h10894) ?_
      obtain ⟨j10897, hj10898, hx10899⟩ := idx_some h10896
      obtain ⟨cs10900, hs10905, P10906, P10907, hq10908, hr10901, hcs10902, hA10903, hlt10904, hb10909, hho10910⟩ := OS.get (sz := 1) rfl (by decide) h10755 hx10899
      obtain ⟨rfl, rfl⟩ := hr10901
      refine E_yes 12 21 rfl (st_index_old j10897 rfl rfl hj10898 hlt10904 hA10903 sl22) ?_
      refine E_yes 13 21 rfl (st_load_rd rfl one3 (fun w ho => hcs10902 w _ ho (List.sublist_append_left _ _) 0 _ rfl)) ?_
      refine E_out ?_
      refine d_pullb 2 rfl ?_
      refine d_pullb 2 rfl ?_
      refine d_pullb 2 rfl ?_
      refine D_all [14] (by kernel_rfl) rfl ?_
      refine R_callvGY (Base.Le.refl _) rfl rfl 21 rfl rfl rfl #[] #[.pointer (some ⟨g6, 0, none⟩), .pointer (some ⟨g7, 0, none⟩), .pointer (some ⟨g8, 0, none⟩)] [.int .i64 (x10878), .int .i64 (x10895)] rfl call33 rfl (cFareShares_1 _ _ x10878 x10895 x11 l15 x16 g6 g7 g8 A12 c13 (h14.le (hle9218.trans hle10752)) x10911 hcl10912) ?_ ?_
      ·
       rintro _ b10913 _ hle10914 ⟨rfl, rfl⟩
       refine ⟨.inr (.cons _ (.cons _ (.cons _ (.refl _)))), ?_⟩
       refine D_yes hle10914 15 21 rfl (by kernel_rfl) (by kernel_rfl) (by kernel_rfl) rfl rfl rfl rfl (st_lss rfl rfl) (.cons _ (.cons _ (.cons _ (.refl _)))) ?_
       refine D_st hle10914 16 rfl (by kernel_rfl) (by kernel_rfl) (by kernel_rfl) rfl (st_pick_t rfl rfl) (.cons _ (.cons _ (.cons _ (.refl _)))) ?_
       refine D_done (by kernel_rfl) ?_
       obtain rfl := some1 hm
       refine x_pullb 2 rfl ?_
       refine x_pullb 2 rfl ?_
       refine x_pullb 2 rfl ?_
       exact x_join (e' := [(0, .slice A3 (l10757).length c4), (1, .int .i64 (x9)), (2, .int .i64 (x10)), (3, .func (.func 33) #[] #[.pointer (some ⟨g6, 0, none⟩), .pointer (some ⟨g7, 0, none⟩), .pointer (some ⟨g8, 0, none⟩)]), (8, .int .i64 (x9222)), (9, .int .i64 (x10756)), (34, .bool (decide (x10911 < 0)))]) ⟨rfl, rfl, rfl, rfl, rfl, rfl, rfl, trivial⟩ (.refl _) ⟨rfl, rfl, hle10914⟩
      exact R_nil
     ·
      rw [if_neg hc10877] at hm
      refine D_drawI mixed (.refl _) ?_
      refine E_st 0 rfl (st_move rfl) ?_
      refine E_st 1 rfl (st_move rfl) ?_
      refine E_st 2 rfl (st_gtr_f rfl rfl hc10877) ?_
      refine E_st 3 rfl (st_move rfl) ?_
      refine E_no 4 21 rfl rfl rfl ?_
      refine E_no 5 21 rfl rfl rfl ?_
      refine E_no 6 21 rfl rfl rfl ?_
      refine E_no 7 21 rfl rfl rfl ?_
      refine E_no 8 21 rfl rfl rfl ?_
      refine E_no 9 21 rfl rfl rfl ?_
      refine E_no 10 21 rfl rfl rfl ?_
      refine E_no 11 21 rfl rfl rfl ?_
      refine E_no 12 21 rfl rfl rfl ?_
      refine E_no 13 21 rfl rfl rfl ?_
      refine E_no 14 21 rfl rfl rfl ?_
      refine E_no 15 21 rfl rfl rfl ?_
      refine E_st 16 rfl (st_pick_f rfl rfl) ?_
      refine E_out ?_
      refine D_done (by kernel_rfl) ?_
      obtain rfl := some1 hm
      refine x_pullb 2 rfl ?_
      refine x_pullb 2 rfl ?_
      refine x_pullb 2 rfl ?_
      exact x_join (e' := [(0, .slice A3 (l10757).length c4), (1, .int .i64 (x9)), (2, .int .i64 (x10)), (3, .func (.func 33) #[] #[.pointer (some ⟨g6, 0, none⟩), .pointer (some ⟨g7, 0, none⟩), .pointer (some ⟨g8, 0, none⟩)]), (8, .int .i64 (x9222)), (9, .int .i64 (x10756)), (34, .bool (false))]) ⟨rfl, rfl, rfl, rfl, rfl, rfl, rfl, trivial⟩ (.refl _) ⟨rfl, rfl, (Base.Le.refl _)⟩
    ·
     rintro b10835 _ _ ⟨rfl, rfl, hle10836⟩
     have hm := hk10838
     refine c_cond _ rfl (fun hc10915 => ?_) (fun hc10915 => ?_)
     ·
      rw [if_pos hc10915] at hm
      refine c_skip ?_
      refine x_then_normal ?_
      refine c_seq ?_
      refine c_block ?_
      obtain ⟨_, h10986, hm⟩ := bindS hm
      obtain ⟨_, h10987, hm⟩ := bindS hm
      obtain ⟨x10988, h10989, hm⟩ := bindS hm
      obtain ⟨x11004, h11005, hm⟩ := bindS hm
      obtain ⟨x11020, h11021, hm⟩ := bindS hm
      obtain ⟨x11038, h11039, hm⟩ := bindS hm
      refine D_drawI mixed (.cons_cons _ (.cons_cons _ (.cons_cons _ (sub_skip hs10754 (.refl _))))) ?_
      refine E_st 0 rfl (st_move rfl) ?_
      refine E_st 1 rfl (st_move rfl) ?_
      refine E_st 2 rfl (st_move rfl) ?_
      refine E_st 3 rfl (st_move rfl) ?_
      have h10986 := (chk_some h10986).2
      refine E_st 4 rfl (st_sub rfl rfl h10986) ?_
      refine E_st 5 rfl (st_move rfl) ?_
      refine E_st 6 rfl (st_move rfl) ?_
      have h10987 := (chk_some h10987).2
      refine E_st 7 rfl (st_sub rfl rfl h10987) ?_
      obtain ⟨j10990, hj10991, hx10992⟩ := idx_some h10989
      obtain ⟨cs10993, hs10998, P10999, P11000, hq11001, hr10994, hcs10995, hA10996, hlt10997, hb11002, hho11003⟩ := OS.get (sz := 1) rfl (by decide) (h10755.le hle10836) hx10992
      obtain ⟨rfl, rfl⟩ := hr10994
      refine E_st 8 rfl (st_index_old j10990 rfl rfl hj10991 hlt10997 hA10996 sl22) ?_
      refine E_st 10 rfl (st_move rfl) ?_
      refine E_st 11 rfl (st_move rfl) ?_
      obtain ⟨j11006, hj11007, hx11008⟩ := idx_some h11005
      obtain ⟨cs11009, hs11014, P11015, P11016, hq11017, hr11010, hcs11011, hA11012, hlt11013, hb11018, hho11019⟩ := OS.get (sz := 1) rfl (by decide) (h10755.le hle10836) hx11008
      obtain ⟨rfl, rfl⟩ := hr11010
      refine E_st 12 rfl (st_index_old j11006 rfl rfl hj11007 hlt11013 hA11012 sl22) ?_
      refine E_out ?_
      refine D_all [9, 13] (by kernel_rfl) rfl ?_
      refine R_do (Base.Le.refl _) rfl rfl (Stable.does (st_load_rd rfl one3 (fun w ho => hcs10995 w _ ho (.cons _ (.cons _ (.cons _ (List.sublist_append_left _ _)))) 0 _ rfl))) ?_ ?_
      ·
       rintro _ _ ⟨rfl, rfl⟩
       refine ⟨.inr (.cons_cons _ (.cons_cons _ (.cons_cons _ (sub_skip hs10754 (.refl _))))), ?_⟩
       refine D_all [13] (by kernel_rfl) rfl ?_
       refine R_do (Base.Le.refl _) rfl rfl (Stable.does (st_load_rd rfl one3 (fun w ho => hcs11011 w _ ho (.cons _ (.cons _ (.cons _ (List.sublist_append_left _ _)))) 0 _ rfl))) ?_ ?_
       ·
        rintro _ _ ⟨rfl, rfl⟩
        refine ⟨.inr (.cons_cons _ (.cons_cons _ (.cons_cons _ (sub_skip hs10754 (.refl _))))), ?_⟩
        obtain ⟨j11022, hj11023, hx11024⟩ := idx_some h11021
        obtain ⟨cs11025, hs11030, P11031, P11032, hq11033, hr11026, hcs11027, hA11028, hlt11029, hb11034, hho11035⟩ := OS.get (sz := 1) rfl (by decide) (h10755.le hle10836) hx11024
        obtain ⟨rfl, rfl⟩ := hr11026
        refine E_in (.cons_cons _ (.cons_cons _ (.cons_cons _ (sub_skip hs10754 (.refl _))))) ?_
        refine E_st 14 rfl (st_index_old j11022 rfl rfl hj11023 hlt11029 hA11028 sl22) ?_
        refine E_out ?_
        refine D_all [15] (by kernel_rfl) rfl ?_
        refine R_do (Base.Le.refl _) rfl rfl (u_putOS hj11023 (sz := 1) (a' := x10988) rfl [_, _, _] R 0 1 [.int .i64 (x10988)] rfl (h10755.le hle10836) hx11024 rfl rfl rfl siz3 rfl (mem_c rfl mem_n) (fun cs hsj hh => by obtain ⟨rfl, rfl⟩ := hh; exact ⟨by decide, rfl, rfl⟩)) ?_ ?_
        ·
         rintro _ _ ⟨hs11036, rfl, h11037⟩
         refine ⟨.inr (.cons_cons _ (.cons_cons _ (.cons_cons _ (sub_skip hs11036 (.refl _))))), ?_⟩
         refine d_resp 0 rfl (v' := .slice A3 (put l10757 x10756 x10988).length c4) (by simp only [put_length]) ?_
         refine d_resp 39 rfl (v' := .slice A3 (put l10757 x10756 x10988).length c4) (by simp only [put_length]) ?_
         obtain ⟨j11040, hj11041, hx11042⟩ := idx_some h11039
         obtain ⟨cs11043, hs11048, P11049, P11050, hq11051, hr11044, hcs11045, hA11046, hlt11047, hb11052, hho11053⟩ := OS.get (sz := 1) rfl (by decide) h11037 hx11042
         obtain ⟨rfl, rfl⟩ := hr11044
         refine E_in (.cons_cons _ (.cons_cons _ (.cons_cons _ (sub_skip hs11036 (.refl _))))) ?_
         refine E_st 16 rfl (st_index_old j11040 rfl rfl hj11041 hlt11047 hA11046 sl22) ?_
         refine E_out ?_
         refine D_all [17] (by kernel_rfl) rfl ?_
         refine R_do (Base.Le.refl _) rfl rfl (u_putOS hj11041 (sz := 1) (a' := x11004) rfl [_, _, _] R 0 1 [.int .i64 (x11004)] rfl h11037 hx11042 rfl rfl rfl siz3 rfl (mem_c rfl mem_n) (fun cs hsj hh => by obtain ⟨rfl, rfl⟩ := hh; exact ⟨by decide, rfl, rfl⟩)) ?_ ?_
         ·
          rintro _ _ ⟨hs11054, rfl, h11055⟩
          refine ⟨.inl (by kernel_rfl), ?_⟩
          refine d_resp 0 rfl (v' := .slice A3 (put (put l10757 x10756 x10988) (x10756 - 1) x11004).length c4) (by simp only [put_length]) ?_
          refine D_done (by kernel_rfl) ?_
          refine x_block_normal ?_
          refine x_then_normal ?_
          refine c_region ?_
          refine t_mv rfl rfl ?_
          obtain ⟨_, h11056, hm⟩ := bindS hm
          have h11056 := (chk_some h11056).2
          refine t_st rfl (st_sub rfl rfl h11056) ?_
          refine t_as rfl rfl ?_
          refine t_nil ?_
          refine x_pullb 2 rfl ?_
          refine x_pullb 2 rfl ?_
          refine x_pullb 2 rfl ?_
          exact x_againM (x10756 - 1, put (put l10757 x10756 x10988) (x10756 - 1) x11004) (Option.some.inj hm).symm (e' := [(0, .slice A3 (put (put l10757 x10756 x10988) (x10756 - 1) x11004).length c4), (1, .int .i64 (x9)), (2, .int .i64 (x10)), (3, .func (.func 33) #[] #[.pointer (some ⟨g6, 0, none⟩), .pointer (some ⟨g7, 0, none⟩), .pointer (some ⟨g8, 0, none⟩)]), (8, .int .i64 (x9222)), (9, .int .i64 (x10756 - 1))]) ⟨rfl, rfl, rfl, rfl, rfl, rfl, trivial⟩ (.refl _) ⟨hs11054, rfl, rfl, ((hle10752.trans hle10836)), h11055, ((put_length _ _ _).trans ((put_length _ _ _).trans hln10758))⟩
         exact R_nil
        exact R_nil
       exact R_nil
      refine R_do (Base.Le.refl _) rfl rfl (Stable.does (st_load_rd rfl one3 (fun w ho => hcs11011 w _ ho (.cons _ (.cons _ (.cons _ (List.sublist_append_left _ _)))) 0 _ rfl))) ?_ ?_
      ·
       rintro _ _ ⟨rfl, rfl⟩
       refine ⟨.inr (.cons_cons _ (.cons_cons _ (.cons_cons _ (sub_skip hs10754 (.refl _))))), ?_⟩
       refine D_all [9] (by kernel_rfl) rfl ?_
       refine R_do (Base.Le.refl _) rfl rfl (Stable.does (st_load_rd rfl one3 (fun w ho => hcs10995 w _ ho (.cons _ (.cons _ (.cons _ (List.sublist_append_left _ _)))) 0 _ rfl))) ?_ ?_
       ·
        rintro _ _ ⟨rfl, rfl⟩
        refine ⟨.inr (.cons_cons _ (.cons_cons _ (.cons_cons _ (sub_skip hs10754 (.refl _))))), ?_⟩
        obtain ⟨j11022, hj11023, hx11024⟩ := idx_some h11021
        obtain ⟨cs11025, hs11030, P11031, P11032, hq11033, hr11026, hcs11027, hA11028, hlt11029, hb11034, hho11035⟩ := OS.get (sz := 1) rfl (by decide) (h10755.le hle10836) hx11024
        obtain ⟨rfl, rfl⟩ := hr11026
        refine E_in (.cons_cons _ (.cons_cons _ (.cons_cons _ (sub_skip hs10754 (.refl _))))) ?_
        refine E_st 14 rfl (st_index_old j11022 rfl rfl hj11023 hlt11029 hA11028 sl22) ?_
        refine E_out ?_
        refine D_all [15] (by kernel_rfl) rfl ?_
        refine R_do (Base.Le.refl _) rfl rfl (u_putOS hj11023 (sz := 1) (a' := x10988) rfl [_, _, _] R 0 1 [.int .i64 (x10988)] rfl (h10755.le hle10836) hx11024 rfl rfl rfl siz3 rfl (mem_c rfl mem_n) (fun cs hsj hh => by obtain ⟨rfl, rfl⟩ := hh; exact ⟨by decide, rfl, rfl⟩)) ?_ ?_
        ·
         rintro _ _ ⟨hs11036, rfl, h11037⟩
         refine ⟨.inr (.cons_cons _ (.cons_cons _ (.cons_cons _ (sub_skip hs11036 (.refl _))))), ?_⟩
         refine d_resp 0 rfl (v' := .slice A3 (put l10757 x10756 x10988).length c4) (by simp only [put_length]) ?_
         refine d_resp 39 rfl (v' := .slice A3 (put l10757 x10756 x10988).length c4) (by simp only [put_length]) ?_
         obtain ⟨j11040, hj11041, hx11042⟩ := idx_some h11039
         obtain ⟨cs11043, hs11048, P11049, P11050, hq11051, hr11044, hcs11045, hA11046, hlt11047, hb11052, hho11053⟩ := OS.get (sz := 1) rfl (by decide) h11037 hx11042
         obtain ⟨rfl, rfl⟩ := hr11044
         refine E_in (.cons_cons _ (.cons_cons _ (.cons_cons _ (sub_skip hs11036 (.refl _))))) ?_
         refine E_st 16 rfl (st_index_old j11040 rfl rfl hj11041 hlt11047 hA11046 sl22) ?_
         refine E_out ?_
         refine D_all [17] (by kernel_rfl) rfl ?_
         refine R_do (Base.Le.refl _) rfl rfl (u_putOS hj11041 (sz := 1) (a' := x11004) rfl [_, _, _] R 0 1 [.int .i64 (x11004)] rfl h11037 hx11042 rfl rfl rfl siz3 rfl (mem_c rfl mem_n) (fun cs hsj hh => by obtain ⟨rfl, rfl⟩ := hh; exact ⟨by decide, rfl, rfl⟩)) ?_ ?_
         ·
          rintro _ _ ⟨hs11054, rfl, h11055⟩
          refine ⟨.inl (by kernel_rfl), ?_⟩
          refine d_resp 0 rfl (v' := .slice A3 (put (put l10757 x10756 x10988) (x10756 - 1) x11004).length c4) (by simp only [put_length]) ?_
          refine D_done (by kernel_rfl) ?_
          refine x_block_normal ?_
          refine x_then_normal ?_
          refine c_region ?_
          refine t_mv rfl rfl ?_
          obtain ⟨_, h11057, hm⟩ := bindS hm
          have h11057 := (chk_some h11057).2
          refine t_st rfl (st_sub rfl rfl h11057) ?_
          refine t_as rfl rfl ?_
          refine t_nil ?_
          refine x_pullb 2 rfl ?_
          refine x_pullb 2 rfl ?_
          refine x_pullb 2 rfl ?_
          exact x_againM (x10756 - 1, put (put l10757 x10756 x10988) (x10756 - 1) x11004) (Option.some.inj hm).symm (e' := [(0, .slice A3 (put (put l10757 x10756 x10988) (x10756 - 1) x11004).length c4), (1, .int .i64 (x9)), (2, .int .i64 (x10)), (3, .func (.func 33) #[] #[.pointer (some ⟨g6, 0, none⟩), .pointer (some ⟨g7, 0, none⟩), .pointer (some ⟨g8, 0, none⟩)]), (8, .int .i64 (x9222)), (9, .int .i64 (x10756 - 1))]) ⟨rfl, rfl, rfl, rfl, rfl, rfl, trivial⟩ (.refl _) ⟨hs11054, rfl, rfl, ((hle10752.trans hle10836)), h11055, ((put_length _ _ _).trans ((put_length _ _ _).trans hln10758))⟩
         exact R_nil
        exact R_nil
       exact R_nil
      exact R_nil
     ·
      rw [if_neg (fun hh => Bool.noConfusion (hh.symm.trans hc10915))] at hm
      refine c_exit ?_
      refine x_then_exit ?_
      refine x_then_exit ?_
      refine x_block_out ?_
      have hm := congrArg some (houtL10146 _ (Option.some.inj hm).symm)
      refine x_block_normal ?_
      obtain rfl := some1 hm
      refine x_pullb 2 rfl ?_
      refine x_pullb 2 rfl ?_
      refine x_pullb 2 rfl ?_
      exact x_join (e' := [(0, .slice A3 (l10757).length c4), (1, .int .i64 (x9)), (2, .int .i64 (x10)), (3, .func (.func 33) #[] #[.pointer (some ⟨g6, 0, none⟩), .pointer (some ⟨g7, 0, none⟩), .pointer (some ⟨g8, 0, none⟩)]), (8, .int .i64 (x9222))]) ⟨rfl, rfl, rfl, rfl, rfl, trivial⟩ (.refl _) ⟨hs10754, rfl, rfl, (hle10752.trans hle10836), (h10755.le hle10836), hln10758⟩
   ·
    rintro b10138 _ _ ⟨hs10141, rfl, rfl, hle10139, h10142, hln10144⟩
    have hm := hk10145
    refine c_region ?_
    refine t_mv rfl rfl ?_
    obtain ⟨_, h11058, hm⟩ := bindS hm
    have h11058 := (chk_some h11058).2
    refine t_st rfl (st_add rfl rfl h11058) ?_
    refine t_as rfl rfl ?_
    refine t_nil ?_
    refine x_pullb 2 rfl ?_
    refine x_pullb 2 rfl ?_
    refine x_pullb 2 rfl ?_
    exact x_againM (x9222 + 1, l10143) (Option.some.inj hm).symm (e' := [(0, .slice A3 (l10143).length c4), (1, .int .i64 (x9)), (2, .int .i64 (x10)), (3, .func (.func 33) #[] #[.pointer (some ⟨g6, 0, none⟩), .pointer (some ⟨g7, 0, none⟩), .pointer (some ⟨g8, 0, none⟩)]), (8, .int .i64 (x9222 + 1))]) ⟨rfl, rfl, rfl, rfl, rfl, trivial⟩ (.refl _) ⟨hs10141, rfl, rfl, ((hle9218.trans hle10139)), h10142, hln10144⟩
  ·
   rw [if_neg (of_decide_eq_false hc9225)] at hm
   refine c_exit ?_
   refine x_then_exit ?_
   refine x_then_exit ?_
   refine x_block_out ?_
   have hm := congrArg some (houtL5542 _ (Option.some.inj hm).symm)
   obtain rfl := some1 hm
   refine x_pullb 2 rfl ?_
   refine x_pullb 2 rfl ?_
   refine x_pullb 2 rfl ?_
   exact endM hle9218 rfl (.refl _) ⟨hs9220, rfl, rfl, h9221, hln9224⟩

set_option maxRecDepth 20000 in
theorem cSlicesSwapRangeCmpFunc (b : Base) (R : Hp) (x9 : Int) (x10 : Int) (x11 : Int) (x12 : Int) (l16 : (List Int)) (x17 : Int) (l18 : (List Int)) (g6 : Nat) (g7 : Nat) (g8 : Nat) (A13 : Option Addr) (c14 : Nat) (A3 : Option Addr) (c4 : Nat) (hs2 : Hp) (h15 : FZ (RT.int .i64) b.w A13 c14 l16) (h5 : OS 3 (OT.fr (RT.int .i64)) b.w (.slice A3 l18.length c4) l18 hs2) (l478 : (List Int)) (hm : mSlicesSwapRangeCmpFunc x9 x10 x11 x12 l16 x17 l18 = some l478) :
    CallsG Tryz.prog 123 [.slice A3 (l18).length c4, .int .i64 (x9), .int .i64 (x10), .int .i64 (x11), .func (.func 33) #[] #[.pointer (some ⟨g6, 0, none⟩), .pointer (some ⟨g7, 0, none⟩), .pointer (some ⟨g8, 0, none⟩)]] b ((g6, Cl 3 [.int .i64 (x12)]) :: (g7, Cl 22 [.slice A13 (l16).length c14]) :: (g8, Cl 3 [.int .i64 (x17)]) :: (hs2 ++ R)) (fun v b' hp' => ∃ (hs476 : Hp), .tuple #[] = v ∧ (g6, Cl 3 [.int .i64 (x12)]) :: (g7, Cl 22 [.slice A13 (l16).length c14]) :: (g8, Cl 3 [.int .i64 (x17)]) :: (hs476 ++ R) = hp' ∧ OS 3 (OT.fr (RT.int .i64)) b'.w (.slice A3 l478.length c4) l478 hs476 ∧ l478.length = l18.length) := by
  refine fn_enterG 38 Tryz.func123 rfl Tryz.ntmps123 rfl ?_
  unfold mSlicesSwapRangeCmpFunc at hm
  refine c_sr ?_
  refine t_as rfl rfl ?_
  refine t_ne ?_
  refine c_block ?_
  refine c_pullb 2 rfl ?_
  refine c_pullb 2 rfl ?_
  refine c_pullb 2 rfl ?_
  refine c_loopM (unc2 fun x786 l787 => fun b781 e' hp' => ∃ (hs784 : Hp), [(0, .slice A3 (l787).length c4), (1, .int .i64 (x9)), (2, .int .i64 (x10)), (3, .int .i64 (x11)), (10, .int .i64 (x786))] = e' ∧ (g6, Cl 3 [.int .i64 (x12)]) :: (g7, Cl 22 [.slice A13 (l16).length c14]) :: (g8, Cl 3 [.int .i64 (x17)]) :: (hs784 ++ R) = hp' ∧ b.Le b781 ∧ OS 3 (OT.fr (RT.int .i64)) b781.w (.slice A3 l787.length c4) l787 hs784 ∧ l787.length = l18.length) hm (e' := [(0, .slice A3 (l18).length c4), (1, .int .i64 (x9)), (2, .int .i64 (x10)), (3, .int .i64 (x11)), (10, .int .i64 (0))]) ⟨rfl, rfl, rfl, rfl, rfl, trivial⟩ (.refl _) ⟨hs2, rfl, rfl, (Base.Le.refl _), h5, rfl⟩ ?_
  rintro ⟨x786, l787⟩ b781 _ _ oL480 ⟨hs784, rfl, rfl, hle782, h785, hln788⟩ hstepL480 houtL480
  unfold mSlicesSwapRangeCmpFunc_L480 at hstepL480
  have hm := (unc2E hstepL480)
  refine c_seq ?_
  refine c_sr ?_
  refine t_mv rfl rfl ?_
  refine t_mv rfl rfl ?_
  refine t_st rfl (st_lss rfl rfl) ?_
  refine t_ne ?_
  refine c_cond _ rfl (fun hc789 => ?_) (fun hc789 => ?_)
  ·
   rw [if_pos (of_decide_eq_true hc789)] at hm
   refine c_skip ?_
   refine x_then_normal ?_
   refine c_seq ?_
   refine c_block ?_
   obtain ⟨_, h862, hm⟩ := bindS hm
   obtain ⟨_, h863, hm⟩ := bindS hm
   obtain ⟨_, h864, hm⟩ := bindS hm
   obtain ⟨x865, h866, hm⟩ := bindS hm
   obtain ⟨_, h881, hm⟩ := bindS hm
   obtain ⟨x882, h883, hm⟩ := bindS hm
   obtain ⟨x898, h899, hm⟩ := bindS hm
   obtain ⟨x916, h917, hm⟩ := bindS hm
   refine D_drawI mixed (.cons_cons _ (.cons_cons _ (.cons_cons _ (sub_skip hs784 (.refl _))))) ?_
   refine E_st 0 rfl (st_move rfl) ?_
   refine E_st 1 rfl (st_move rfl) ?_
   refine E_st 2 rfl (st_move rfl) ?_
   have h862 := (chk_some h862).2
   refine E_st 3 rfl (st_add rfl rfl h862) ?_
   refine E_st 4 rfl (st_move rfl) ?_
   refine E_st 5 rfl (st_move rfl) ?_
   refine E_st 6 rfl (st_move rfl) ?_
   have h863 := (chk_some h863).2
   refine E_st 7 rfl (st_add rfl rfl h863) ?_
   refine E_st 8 rfl (st_move rfl) ?_
   refine E_st 9 rfl (st_move rfl) ?_
   refine E_st 10 rfl (st_move rfl) ?_
   have h864 := (chk_some h864).2
   refine E_st 11 rfl (st_add rfl rfl h864) ?_
   obtain ⟨j867, hj868, hx869⟩ := idx_some h866
   obtain ⟨cs870, hs875, P876, P877, hq878, hr871, hcs872, hA873, hlt874, hb879, hho880⟩ := OS.get (sz := 1) rfl (by decide) h785 hx869
   obtain ⟨rfl, rfl⟩ := hr871
   refine E_st 12 rfl (st_index_old j867 rfl rfl hj868 hlt874 hA873 sl22) ?_
   refine E_st 14 rfl (st_move rfl) ?_
   refine E_st 15 rfl (st_move rfl) ?_
   refine E_st 16 rfl (st_move rfl) ?_
   have h881 := (chk_some h881).2
   refine E_st 17 rfl (st_add rfl rfl h881) ?_
   obtain ⟨j884, hj885, hx886⟩ := idx_some h883
   obtain ⟨cs887, hs892, P893, P894, hq895, hr888, hcs889, hA890, hlt891, hb896, hho897⟩ := OS.get (sz := 1) rfl (by decide) h785 hx886
   obtain ⟨rfl, rfl⟩ := hr888
   refine E_st 18 rfl (st_index_old j884 rfl rfl hj885 hlt891 hA890 sl22) ?_
   refine E_out ?_
   refine D_all [13, 19] (by kernel_rfl) rfl ?_
   refine R_do (Base.Le.refl _) rfl rfl (Stable.does (st_load_rd rfl one3 (fun w ho => hcs872 w _ ho (.cons _ (.cons _ (.cons _ (List.sublist_append_left _ _)))) 0 _ rfl))) ?_ ?_
   ·
    rintro _ _ ⟨rfl, rfl⟩
    refine ⟨.inr (.cons_cons _ (.cons_cons _ (.cons_cons _ (sub_skip hs784 (.refl _))))), ?_⟩
    refine D_all [19] (by kernel_rfl) rfl ?_
    refine R_do (Base.Le.refl _) rfl rfl (Stable.does (st_load_rd rfl one3 (fun w ho => hcs889 w _ ho (.cons _ (.cons _ (.cons _ (List.sublist_append_left _ _)))) 0 _ rfl))) ?_ ?_
    ·
     rintro _ _ ⟨rfl, rfl⟩
     refine ⟨.inr (.cons_cons _ (.cons_cons _ (.cons_cons _ (sub_skip hs784 (.refl _))))), ?_⟩
     obtain ⟨j900, hj901, hx902⟩ := idx_some h899
     obtain ⟨cs903, hs908, P909, P910, hq911, hr904, hcs905, hA906, hlt907, hb912, hho913⟩ := OS.get (sz := 1) rfl (by decide) h785 hx902
     obtain ⟨rfl, rfl⟩ := hr904
     refine E_in (.cons_cons _ (.cons_cons _ (.cons_cons _ (sub_skip hs784 (.refl _))))) ?_
     refine E_st 20 rfl (st_index_old j900 rfl rfl hj901 hlt907 hA906 sl22) ?_
     refine E_out ?_
     refine D_all [21] (by kernel_rfl) rfl ?_
     refine R_do (Base.Le.refl _) rfl rfl (u_putOS hj901 (sz := 1) (a' := x865) rfl [_, _, _] R 0 1 [.int .i64 (x865)] rfl h785 hx902 rfl rfl rfl siz3 rfl (mem_c rfl mem_n) (fun cs hsj hh => by obtain ⟨rfl, rfl⟩ := hh; exact ⟨by decide, rfl, rfl⟩)) ?_ ?_
     ·
      rintro _ _ ⟨hs914, rfl, h915⟩
      refine ⟨.inr (.cons_cons _ (.cons_cons _ (.cons_cons _ (sub_skip hs914 (.refl _))))), ?_⟩
      refine d_resp 0 rfl (v' := .slice A3 (put l787 (x9 + x786) x865).length c4) (by simp only [put_length]) ?_
      refine d_resp 20 rfl (v' := .slice A3 (put l787 (x9 + x786) x865).length c4) (by simp only [put_length]) ?_
      obtain ⟨j918, hj919, hx920⟩ := idx_some h917
      obtain ⟨cs921, hs926, P927, P928, hq929, hr922, hcs923, hA924, hlt925, hb930, hho931⟩ := OS.get (sz := 1) rfl (by decide) h915 hx920
      obtain ⟨rfl, rfl⟩ := hr922
      refine E_in (.cons_cons _ (.cons_cons _ (.cons_cons _ (sub_skip hs914 (.refl _))))) ?_
      refine E_st 22 rfl (st_index_old j918 rfl rfl hj919 hlt925 hA924 sl22) ?_
      refine E_out ?_
      refine D_all [23] (by kernel_rfl) rfl ?_
      refine R_do (Base.Le.refl _) rfl rfl (u_putOS hj919 (sz := 1) (a' := x882) rfl [_, _, _] R 0 1 [.int .i64 (x882)] rfl h915 hx920 rfl rfl rfl siz3 rfl (mem_c rfl mem_n) (fun cs hsj hh => by obtain ⟨rfl, rfl⟩ := hh; exact ⟨by decide, rfl, rfl⟩)) ?_ ?_
      ·
       rintro _ _ ⟨hs932, rfl, h933⟩
       refine ⟨.inl (by kernel_rfl), ?_⟩
       refine d_resp 0 rfl (v' := .slice A3 (put (put l787 (x9 + x786) x865) (x10 + x786) x882).length c4) (by simp only [put_length]) ?_
       refine D_done (by kernel_rfl) ?_
       refine x_block_normal ?_
       refine x_then_normal ?_
       refine c_region ?_
       refine t_mv rfl rfl ?_
       obtain ⟨_, h934, hm⟩ := bindS hm
       have h934 := (chk_some h934).2
       refine t_st rfl (st_add rfl rfl h934) ?_
       refine t_as rfl rfl ?_
       refine t_nil ?_
       refine x_pullb 2 rfl ?_
       refine x_pullb 2 rfl ?_
       refine x_pullb 2 rfl ?_
       exact x_againM (x786 + 1, put (put l787 (x9 + x786) x865) (x10 + x786) x882) (Option.some.inj hm).symm (e' := [(0, .slice A3 (put (put l787 (x9 + x786) x865) (x10 + x786) x882).length c4), (1, .int .i64 (x9)), (2, .int .i64 (x10)), (3, .int .i64 (x11)), (10, .int .i64 (x786 + 1))]) ⟨rfl, rfl, rfl, rfl, rfl, trivial⟩ (.refl _) ⟨hs932, rfl, rfl, (hle782), h933, ((put_length _ _ _).trans ((put_length _ _ _).trans hln788))⟩
      exact R_nil
     exact R_nil
    exact R_nil
   refine R_do (Base.Le.refl _) rfl rfl (Stable.does (st_load_rd rfl one3 (fun w ho => hcs889 w _ ho (.cons _ (.cons _ (.cons _ (List.sublist_append_left _ _)))) 0 _ rfl))) ?_ ?_
   ·
    rintro _ _ ⟨rfl, rfl⟩
    refine ⟨.inr (.cons_cons _ (.cons_cons _ (.cons_cons _ (sub_skip hs784 (.refl _))))), ?_⟩
    refine D_all [13] (by kernel_rfl) rfl ?_
    refine R_do (Base.Le.refl _) rfl rfl (Stable.does (st_load_rd rfl one3 (fun w ho => hcs872 w _ ho (.cons _ (.cons _ (.cons _ (List.sublist_append_left _ _)))) 0 _ rfl))) ?_ ?_
    ·
     rintro _ _ ⟨rfl, rfl⟩
     refine ⟨.inr (.cons_cons _ (.cons_cons _ (.cons_cons _ (sub_skip hs784 (.refl _))))), ?_⟩
     obtain ⟨j900, hj901, hx902⟩ := idx_some h899
     obtain ⟨cs903, hs908, P909, P910, hq911, hr904, hcs905, hA906, hlt907, hb912, hho913⟩ := OS.get (sz := 1) rfl (by decide) h785 hx902
     obtain ⟨rfl, rfl⟩ := hr904
     refine E_in (.cons_cons _ (.cons_cons _ (.cons_cons _ (sub_skip hs784 (.refl _))))) ?_
     refine E_st 20 rfl (st_index_old j900 rfl rfl hj901 hlt907 hA906 sl22) ?_
     refine E_out ?_
     refine D_all [21] (by kernel_rfl) rfl ?_
     refine R_do (Base.Le.refl _) rfl rfl (u_putOS hj901 (sz := 1) (a' := x865) rfl [_, _, _] R 0 1 [.int .i64 (x865)] rfl h785 hx902 rfl rfl rfl siz3 rfl (mem_c rfl mem_n) (fun cs hsj hh => by obtain ⟨rfl, rfl⟩ := hh; exact ⟨by decide, rfl, rfl⟩)) ?_ ?_
     ·
      rintro _ _ ⟨hs914, rfl, h915⟩
      refine ⟨.inr (.cons_cons _ (.cons_cons _ (.cons_cons _ (sub_skip hs914 (.refl _))))), ?_⟩
      refine d_resp 0 rfl (v' := .slice A3 (put l787 (x9 + x786) x865).length c4) (by simp only [put_length]) ?_
      refine d_resp 20 rfl (v' := .slice A3 (put l787 (x9 + x786) x865).length c4) (by simp only [put_length]) ?_
      obtain ⟨j918, hj919, hx920⟩ := idx_some h917
      obtain ⟨cs921, hs926, P927, P928, hq929, hr922, hcs923, hA924, hlt925, hb930, hho931⟩ := OS.get (sz := 1) rfl (by decide) h915 hx920
      obtain ⟨rfl, rfl⟩ := hr922
      refine E_in (.cons_cons _ (.cons_cons _ (.cons_cons _ (sub_skip hs914 (.refl _))))) ?_
      refine E_st 22 rfl (st_index_old j918 rfl rfl hj919 hlt925 hA924 sl22) ?_
      refine E_out ?_
      refine D_all [23] (by kernel_rfl) rfl ?_
      refine R_do (Base.Le.refl _) rfl rfl (u_putOS hj919 (sz := 1) (a' := x882) rfl [_, _, _] R 0 1 [.int .i64 (x882)] rfl h915 hx920 rfl rfl rfl siz3 rfl (mem_c rfl mem_n) (fun cs hsj hh => by obtain ⟨rfl, rfl⟩ := hh; exact ⟨by decide, rfl, rfl⟩)) ?_ ?_
      ·
       rintro _ _ ⟨hs932, rfl, h933⟩
       refine ⟨.inl (by kernel_rfl), ?_⟩
       refine d_resp 0 rfl (v' := .slice A3 (put (put l787 (x9 + x786) x865) (x10 + x786) x882).length c4) (by simp only [put_length]) ?_
       refine D_done (by kernel_rfl) ?_
       refine x_block_normal ?_
       refine x_then_normal ?_
       refine c_region ?_
       refine t_mv rfl rfl ?_
       obtain ⟨_, h935, hm⟩ := bindS hm
       have h935 := (chk_some h935).2
       refine t_st rfl (st_add rfl rfl h935) ?_
       refine t_as rfl rfl ?_
       refine t_nil ?_
       refine x_pullb 2 rfl ?_
       refine x_pullb 2 rfl ?_
       refine x_pullb 2 rfl ?_
       exact x_againM (x786 + 1, put (put l787 (x9 + x786) x865) (x10 + x786) x882) (Option.some.inj hm).symm (e' := [(0, .slice A3 (put (put l787 (x9 + x786) x865) (x10 + x786) x882).length c4), (1, .int .i64 (x9)), (2, .int .i64 (x10)), (3, .int .i64 (x11)), (10, .int .i64 (x786 + 1))]) ⟨rfl, rfl, rfl, rfl, rfl, trivial⟩ (.refl _) ⟨hs932, rfl, rfl, (hle782), h933, ((put_length _ _ _).trans ((put_length _ _ _).trans hln788))⟩
      exact R_nil
     exact R_nil
    exact R_nil
   exact R_nil
  ·
   rw [if_neg (of_decide_eq_false hc789)] at hm
   refine c_exit ?_
   refine x_then_exit ?_
   refine x_then_exit ?_
   refine x_block_out ?_
   have hm := congrArg some (houtL480 _ (Option.some.inj hm).symm)
   obtain rfl := some1 hm
   refine x_pullb 2 rfl ?_
   refine x_pullb 2 rfl ?_
   refine x_pullb 2 rfl ?_
   exact endM hle782 rfl (.refl _) ⟨hs784, rfl, rfl, h785, hln788⟩

set_option maxRecDepth 20000 in
theorem cSlicesRotateCmpFunc (b : Base) (R : Hp) (x9 : Int) (x10 : Int) (x11 : Int) (x12 : Int) (l16 : (List Int)) (x17 : Int) (l18 : (List Int)) (g6 : Nat) (g7 : Nat) (g8 : Nat) (A13 : Option Addr) (c14 : Nat) (A3 : Option Addr) (c4 : Nat) (hs2 : Hp) (h15 : FZ (RT.int .i64) b.w A13 c14 l16) (h5 : OS 3 (OT.fr (RT.int .i64)) b.w (.slice A3 l18.length c4) l18 hs2) (l207 : (List Int)) (hm : mSlicesRotateCmpFunc x9 x10 x11 x12 l16 x17 l18 = some l207) :
    CallsG Tryz.prog 99 [.slice A3 (l18).length c4, .int .i64 (x9), .int .i64 (x10), .int .i64 (x11), .func (.func 33) #[] #[.pointer (some ⟨g6, 0, none⟩), .pointer (some ⟨g7, 0, none⟩), .pointer (some ⟨g8, 0, none⟩)]] b ((g6, Cl 3 [.int .i64 (x12)]) :: (g7, Cl 22 [.slice A13 (l16).length c14]) :: (g8, Cl 3 [.int .i64 (x17)]) :: (hs2 ++ R)) (fun v b' hp' => ∃ (hs205 : Hp), .tuple #[] = v ∧ (g6, Cl 3 [.int .i64 (x12)]) :: (g7, Cl 22 [.slice A13 (l16).length c14]) :: (g8, Cl 3 [.int .i64 (x17)]) :: (hs205 ++ R) = hp' ∧ OS 3 (OT.fr (RT.int .i64)) b'.w (.slice A3 l207.length c4) l207 hs205 ∧ l207.length = l18.length) := by
  refine fn_enterG 58 Tryz.func99 rfl Tryz.ntmps99 rfl ?_
  unfold mSlicesRotateCmpFunc at hm
  refine c_sr ?_
  refine t_mv rfl rfl ?_
  refine t_mv rfl rfl ?_
  obtain ⟨_, h209, hm⟩ := bindS hm
  have h209 := (chk_some h209).2
  refine t_st rfl (st_sub rfl rfl h209) ?_
  refine t_as rfl rfl ?_
  refine t_ne ?_
  refine c_sr ?_
  refine t_mv rfl rfl ?_
  refine t_mv rfl rfl ?_
  obtain ⟨_, h210, hm⟩ := bindS hm
  have h210 := (chk_some h210).2
  refine t_st rfl (st_sub rfl rfl h210) ?_
  refine t_as rfl rfl ?_
  refine t_ne ?_
  obtain ⟨⟨x299, l300⟩, hj302, hk302⟩ := bindS hm
  refine c_join (fun b294 e' hp' => ∃ (hs297 : Hp), [(0, .slice A3 (l300).length c4), (2, .int .i64 (x10)), (4, .func (.func 33) #[] #[.pointer (some ⟨g6, 0, none⟩), .pointer (some ⟨g7, 0, none⟩), .pointer (some ⟨g8, 0, none⟩)]), (10, .int .i64 (x299))] = e' ∧ (g6, Cl 3 [.int .i64 (x12)]) :: (g7, Cl 22 [.slice A13 (l16).length c14]) :: (g8, Cl 3 [.int .i64 (x17)]) :: (hs297 ++ R) = hp' ∧ b.Le b294 ∧ OS 3 (OT.fr (RT.int .i64)) b294.w (.slice A3 l300.length c4) l300 hs297 ∧ l300.length = l18.length) ?_ ?_
  ·
   have hm := hj302
   refine c_block ?_
   refine c_pullb 2 rfl ?_
   refine c_pullb 2 rfl ?_
   refine c_pullb 2 rfl ?_
   refine c_loopM (unc3 fun x360 x361 l362 => fun b355 e' hp' => ∃ (hs358 : Hp), [(0, .slice A3 (l362).length c4), (2, .int .i64 (x10)), (4, .func (.func 33) #[] #[.pointer (some ⟨g6, 0, none⟩), .pointer (some ⟨g7, 0, none⟩), .pointer (some ⟨g8, 0, none⟩)]), (10, .int .i64 (x360)), (11, .int .i64 (x361))] = e' ∧ (g6, Cl 3 [.int .i64 (x12)]) :: (g7, Cl 22 [.slice A13 (l16).length c14]) :: (g8, Cl 3 [.int .i64 (x17)]) :: (hs358 ++ R) = hp' ∧ b.Le b355 ∧ OS 3 (OT.fr (RT.int .i64)) b355.w (.slice A3 l362.length c4) l362 hs358 ∧ l362.length = l18.length) hm (e' := [(0, .slice A3 (l18).length c4), (2, .int .i64 (x10)), (4, .func (.func 33) #[] #[.pointer (some ⟨g6, 0, none⟩), .pointer (some ⟨g7, 0, none⟩), .pointer (some ⟨g8, 0, none⟩)]), (10, .int .i64 (x10 - x9)), (11, .int .i64 (x11 - x10))]) ⟨rfl, rfl, rfl, rfl, rfl, trivial⟩ (.refl _) ⟨hs2, rfl, rfl, (Base.Le.refl _), h5, rfl⟩ ?_
   rintro ⟨x360, x361, l362⟩ b355 _ _ oL303 ⟨hs358, rfl, rfl, hle356, h359, hln363⟩ hstepL303 houtL303
   unfold mSlicesRotateCmpFunc_L303 at hstepL303
   have hm := (unc3E hstepL303)
   refine c_seq ?_
   refine c_sr ?_
   refine t_mv rfl rfl ?_
   refine t_mv rfl rfl ?_
   refine t_st rfl (st_neq rfl rfl) ?_
   refine t_ne ?_
   refine c_cond _ rfl (fun hc364 => ?_) (fun hc364 => ?_)
   ·
    rw [if_pos (of_decide_eq_true hc364)] at hm
    refine c_skip ?_
    refine x_then_normal ?_
    refine c_block ?_
    refine c_sr ?_
    refine t_mv rfl rfl ?_
    refine t_mv rfl rfl ?_
    refine t_st rfl (st_gtr rfl rfl) ?_
    refine t_ne ?_
    refine c_cond _ rfl (fun hc365 => ?_) (fun hc365 => ?_)
    ·
     rw [if_pos (of_decide_eq_true hc365)] at hm
     refine c_sr ?_
     refine t_mv rfl rfl ?_
     refine t_mv rfl rfl ?_
     refine t_mv rfl rfl ?_
     obtain ⟨_, h366, hm⟩ := bindS hm
     have h366 := (chk_some h366).2
     refine t_st rfl (st_sub rfl rfl h366) ?_
     refine t_mv rfl rfl ?_
     refine t_mv rfl rfl ?_
     refine t_mv rfl rfl ?_
     obtain ⟨l367, hcl368, hm⟩ := bindS hm
     refine t_pullb 2 rfl ?_
     refine t_pullb 2 rfl ?_
     refine t_pullb 2 rfl ?_
     refine t_out1 [_, _, _] [] hs358 R rfl ?_
     refine t_callG _ rfl call123 rfl (cSlicesSwapRangeCmpFunc _ _ (x10 - x360) x10 x361 x12 l16 x17 l362 g6 g7 g8 A13 c14 A3 c4 hs358 (h15.le hle356) h359 l367 hcl368) ?_
     rintro _ b369 _ hle370 ⟨hs371, rfl, rfl, h372, h373⟩
     refine t_in1 [_, _, _] [] hs371 R rfl ?_
     refine t_resp 0 rfl (v' := .slice A3 (l367).length c4) (by rw [h373]) ?_
     refine t_ne ?_
     refine c_region ?_
     refine t_mv rfl rfl ?_
     refine t_mv rfl rfl ?_
     obtain ⟨_, h374, hm⟩ := bindS hm
     have h374 := (chk_some h374).2
     refine t_st rfl (st_sub rfl rfl h374) ?_
     refine t_as rfl rfl ?_
     refine t_nil ?_
     refine x_block_normal ?_
     refine x_pullb 2 rfl ?_
     refine x_pullb 2 rfl ?_
     refine x_pullb 2 rfl ?_
     exact x_againM (x360 - x361, x361, l367) (Option.some.inj hm).symm (e' := [(0, .slice A3 (l367).length c4), (2, .int .i64 (x10)), (4, .func (.func 33) #[] #[.pointer (some ⟨g6, 0, none⟩), .pointer (some ⟨g7, 0, none⟩), .pointer (some ⟨g8, 0, none⟩)]), (10, .int .i64 (x360 - x361)), (11, .int .i64 (x361))]) ⟨rfl, rfl, rfl, rfl, rfl, trivial⟩ (.refl _) ⟨hs371, rfl, rfl, ((hle356.trans hle370)), h372, (h373.trans hln363)⟩
    ·
     rw [if_neg (of_decide_eq_false hc365)] at hm
     refine c_sr ?_
     refine t_mv rfl rfl ?_
     refine t_mv rfl rfl ?_
     refine t_mv rfl rfl ?_
     obtain ⟨_, h375, hm⟩ := bindS hm
     have h375 := (chk_some h375).2
     refine t_st rfl (st_sub rfl rfl h375) ?_
     refine t_mv rfl rfl ?_
     refine t_mv rfl rfl ?_
     obtain ⟨_, h376, hm⟩ := bindS hm
     have h376 := (chk_some h376).2
     refine t_st rfl (st_add rfl rfl h376) ?_
     refine t_mv rfl rfl ?_
     obtain ⟨_, h377, hm⟩ := bindS hm
     have h377 := (chk_some h377).2
     refine t_st rfl (st_sub rfl rfl h377) ?_
     refine t_mv rfl rfl ?_
     refine t_mv rfl rfl ?_
     obtain ⟨l378, hcl379, hm⟩ := bindS hm
     refine t_pullb 2 rfl ?_
     refine t_pullb 2 rfl ?_
     refine t_pullb 2 rfl ?_
     refine t_out1 [_, _, _] [] hs358 R rfl ?_
     refine t_callG _ rfl call123 rfl (cSlicesSwapRangeCmpFunc _ _ (x10 - x360) ((x10 + x361) - x360) x360 x12 l16 x17 l362 g6 g7 g8 A13 c14 A3 c4 hs358 (h15.le hle356) h359 l378 hcl379) ?_
     rintro _ b380 _ hle381 ⟨hs382, rfl, rfl, h383, h384⟩
     refine t_in1 [_, _, _] [] hs382 R rfl ?_
     refine t_resp 0 rfl (v' := .slice A3 (l378).length c4) (by rw [h384]) ?_
     refine t_ne ?_
     refine c_region ?_
     refine t_mv rfl rfl ?_
     refine t_mv rfl rfl ?_
     obtain ⟨_, h385, hm⟩ := bindS hm
     have h385 := (chk_some h385).2
     refine t_st rfl (st_sub rfl rfl h385) ?_
     refine t_as rfl rfl ?_
     refine t_nil ?_
     refine x_block_normal ?_
     refine x_pullb 2 rfl ?_
     refine x_pullb 2 rfl ?_
     refine x_pullb 2 rfl ?_
     exact x_againM (x360, x361 - x360, l378) (Option.some.inj hm).symm (e' := [(0, .slice A3 (l378).length c4), (2, .int .i64 (x10)), (4, .func (.func 33) #[] #[.pointer (some ⟨g6, 0, none⟩), .pointer (some ⟨g7, 0, none⟩), .pointer (some ⟨g8, 0, none⟩)]), (10, .int .i64 (x360)), (11, .int .i64 (x361 - x360))]) ⟨rfl, rfl, rfl, rfl, rfl, trivial⟩ (.refl _) ⟨hs382, rfl, rfl, ((hle356.trans hle381)), h383, (h384.trans hln363)⟩
   ·
    rw [if_neg (of_decide_eq_false hc364)] at hm
    refine c_exit ?_
    refine x_then_exit ?_
    refine x_then_exit ?_
    refine x_block_out ?_
    have hm := congrArg some (houtL303 _ (Option.some.inj hm).symm)
    obtain ⟨rfl, rfl⟩ := some2 hm
    refine x_pullb 2 rfl ?_
    refine x_pullb 2 rfl ?_
    refine x_pullb 2 rfl ?_
    exact x_join (e' := [(0, .slice A3 (l362).length c4), (2, .int .i64 (x10)), (4, .func (.func 33) #[] #[.pointer (some ⟨g6, 0, none⟩), .pointer (some ⟨g7, 0, none⟩), .pointer (some ⟨g8, 0, none⟩)]), (10, .int .i64 (x360))]) ⟨rfl, rfl, rfl, rfl, trivial⟩ (.refl _) ⟨hs358, rfl, rfl, hle356, h359, hln363⟩
  ·
   rintro b294 _ _ ⟨hs297, rfl, rfl, hle295, h298, hln301⟩
   have hm := (unc2E hk302)
   refine c_region ?_
   refine t_mv rfl rfl ?_
   refine t_mv rfl rfl ?_
   refine t_mv rfl rfl ?_
   obtain ⟨_, h386, hm⟩ := bindS hm
   have h386 := (chk_some h386).2
   refine t_st rfl (st_sub rfl rfl h386) ?_
   refine t_mv rfl rfl ?_
   refine t_mv rfl rfl ?_
   refine t_mv rfl rfl ?_
   obtain ⟨l387, hcl388, hm⟩ := bindS hm
   refine t_pullb 2 rfl ?_
   refine t_pullb 2 rfl ?_
   refine t_pullb 2 rfl ?_
   refine t_out1 [_, _, _] [] hs297 R rfl ?_
   refine t_callG _ rfl call123 rfl (cSlicesSwapRangeCmpFunc _ _ (x10 - x299) x10 x299 x12 l16 x17 l300 g6 g7 g8 A13 c14 A3 c4 hs297 (h15.le hle295) h298 l387 hcl388) ?_
   rintro _ b389 _ hle390 ⟨hs391, rfl, rfl, h392, h393⟩
   refine t_in1 [_, _, _] [] hs391 R rfl ?_
   refine t_nil ?_
   obtain rfl := some1 hm
   refine x_pullb 2 rfl ?_
   refine x_pullb 2 rfl ?_
   refine x_pullb 2 rfl ?_
   exact endM (hle295.trans hle390) rfl (.refl _) ⟨hs391, rfl, rfl, h392, (h393.trans hln301)⟩

end Go.Proofs.YtnlnohallnfbmaaGreatDoor
