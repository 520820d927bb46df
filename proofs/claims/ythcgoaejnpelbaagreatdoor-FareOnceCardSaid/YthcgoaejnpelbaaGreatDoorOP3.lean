/- Contracts: the code computes its model (part 3). -/
import Derived.Test.YthcgoaejnpelbaaGreatDoorOP2
set_option linter.unusedVariables false
set_option linter.unusedSimpArgs false
namespace Go.Proofs.YthcgoaejnpelbaaGreatDoor
open Go.RowKit Go.Fp

set_option maxRecDepth 20000 in
theorem cSlicesRotateCmpFunc (b : Base) (R : Hp) (x20 : Int) (x21 : Int) (x22 : Int) (x23 : Int) (x24 : Int) (x25 : Int) (x26 : Int) (x27 : Int) (l28 : (List Int)) (l29 : (List FareBooking)) (l31 : (List Bool)) (g16 : Nat) (g17 : Nat) (g18 : Nat) (g19 : Nat) (A3 : Option Addr) (c4 : Nat) (hs2 : Hp) (A8 : Option Addr) (c9 : Nat) (hs7 : Hp) (A13 : Option Addr) (c14 : Nat) (hs12 : Hp) (h5 : OS 3 (OT.fr (RT.int .i64)) b.w (.slice A3 l28.length c4) l28 hs2) (h10 : OS 32 (OT.fr rFareBooking) b.w (.slice A8 l29.length c9) l29 hs7) (hnz30 : (A8 = none ↔ l29 = [])) (h15 : OS 4 (OT.fr RT.bool) b.w (.slice A13 l31.length c14) l31 hs12) (hnz32 : (A13 = none ↔ l31 = [])) (l221 : (List Int)) (hm : mSlicesRotateCmpFunc x20 x21 x22 x23 x24 x25 x26 x27 l28 l29 l31 = some l221) :
    CallsG Tryz.prog 87 [.slice A3 (l28).length c4, .int .i64 (x20), .int .i64 (x21), .int .i64 (x22), .func (.func 36) #[] #[.pointer (some ⟨g16, 0, none⟩), .pointer (some ⟨g17, 0, none⟩), .pointer (some ⟨g18, 0, none⟩)]] b ((g16, Cl 24 [.pointer (some ⟨g19, 0, none⟩)]) :: (g17, Cl 3 [.int .i64 (x23)]) :: (g18, Cl 3 [.int .i64 (x24)]) :: (g19, Cl 54 [.int .i64 (x25), .int .i64 (x26), .int .i64 (x27), .slice A8 (l29).length c9, .slice A13 (l31).length c14]) :: (hs2 ++ (hs7 ++ (hs12 ++ R)))) (fun v b' hp' => ∃ (hs219 : Hp), .tuple #[] = v ∧ (g16, Cl 24 [.pointer (some ⟨g19, 0, none⟩)]) :: (g17, Cl 3 [.int .i64 (x23)]) :: (g18, Cl 3 [.int .i64 (x24)]) :: (g19, Cl 54 [.int .i64 (x25), .int .i64 (x26), .int .i64 (x27), .slice A8 (l29).length c9, .slice A13 (l31).length c14]) :: (hs219 ++ (hs7 ++ (hs12 ++ R))) = hp' ∧ OS 3 (OT.fr (RT.int .i64)) b'.w (.slice A3 l221.length c4) l221 hs219 ∧ l221.length = l28.length) := by
  refine fn_enterG 58 Tryz.func87 rfl Tryz.ntmps87 rfl ?_
  unfold mSlicesRotateCmpFunc at hm
  refine c_sr ?_
  refine t_mv rfl rfl ?_
  refine t_mv rfl rfl ?_
  obtain ⟨_, h223, hm⟩ := bindS hm
  have h223 := (chk_some h223).2
  refine t_st rfl (st_sub rfl rfl h223) ?_
  refine t_as rfl rfl ?_
  refine t_ne ?_
  refine c_sr ?_
  refine t_mv rfl rfl ?_
  refine t_mv rfl rfl ?_
  obtain ⟨_, h224, hm⟩ := bindS hm
  have h224 := (chk_some h224).2
  refine t_st rfl (st_sub rfl rfl h224) ?_
  refine t_as rfl rfl ?_
  refine t_ne ?_
  obtain ⟨⟨x313, l314⟩, hj316, hk316⟩ := bindS hm
  refine c_join (fun b308 e' hp' => ∃ (hs311 : Hp), [(0, .slice A3 (l314).length c4), (2, .int .i64 (x21)), (4, .func (.func 36) #[] #[.pointer (some ⟨g16, 0, none⟩), .pointer (some ⟨g17, 0, none⟩), .pointer (some ⟨g18, 0, none⟩)]), (10, .int .i64 (x313))] = e' ∧ (g16, Cl 24 [.pointer (some ⟨g19, 0, none⟩)]) :: (g17, Cl 3 [.int .i64 (x23)]) :: (g18, Cl 3 [.int .i64 (x24)]) :: (g19, Cl 54 [.int .i64 (x25), .int .i64 (x26), .int .i64 (x27), .slice A8 (l29).length c9, .slice A13 (l31).length c14]) :: (hs311 ++ (hs7 ++ (hs12 ++ R))) = hp' ∧ b.Le b308 ∧ OS 3 (OT.fr (RT.int .i64)) b308.w (.slice A3 l314.length c4) l314 hs311 ∧ l314.length = l28.length) ?_ ?_
  ·
   have hm := hj316
   refine c_block ?_
   refine c_pullb 3 rfl ?_
   refine c_pullb 3 rfl ?_
   refine c_pullb 3 rfl ?_
   refine c_pullb 3 rfl ?_
   refine c_front3 [_, _, _, _] hs2 hs7 hs12 R rfl ?_
   refine c_front3 [_, _, _, _] hs12 hs2 hs7 R rfl ?_
   refine c_front3 [_, _, _, _] hs7 hs12 hs2 R rfl ?_
   refine c_loopM (unc3 fun x374 x375 l376 => fun b369 e' hp' => ∃ (hs372 : Hp), [(0, .slice A3 (l376).length c4), (2, .int .i64 (x21)), (4, .func (.func 36) #[] #[.pointer (some ⟨g16, 0, none⟩), .pointer (some ⟨g17, 0, none⟩), .pointer (some ⟨g18, 0, none⟩)]), (10, .int .i64 (x374)), (11, .int .i64 (x375))] = e' ∧ (g16, Cl 24 [.pointer (some ⟨g19, 0, none⟩)]) :: (g17, Cl 3 [.int .i64 (x23)]) :: (g18, Cl 3 [.int .i64 (x24)]) :: (g19, Cl 54 [.int .i64 (x25), .int .i64 (x26), .int .i64 (x27), .slice A8 (l29).length c9, .slice A13 (l31).length c14]) :: (hs372 ++ (hs7 ++ (hs12 ++ R))) = hp' ∧ b.Le b369 ∧ OS 3 (OT.fr (RT.int .i64)) b369.w (.slice A3 l376.length c4) l376 hs372 ∧ l376.length = l28.length) hm (e' := [(0, .slice A3 (l28).length c4), (2, .int .i64 (x21)), (4, .func (.func 36) #[] #[.pointer (some ⟨g16, 0, none⟩), .pointer (some ⟨g17, 0, none⟩), .pointer (some ⟨g18, 0, none⟩)]), (10, .int .i64 (x21 - x20)), (11, .int .i64 (x22 - x21))]) ⟨rfl, rfl, rfl, rfl, rfl, trivial⟩ (.refl _) ⟨hs2, rfl, rfl, (Base.Le.refl _), h5, rfl⟩ ?_
   rintro ⟨x374, x375, l376⟩ b369 _ _ oL317 ⟨hs372, rfl, rfl, hle370, h373, hln377⟩ hstepL317 houtL317
   unfold mSlicesRotateCmpFunc_L317 at hstepL317
   have hm := (unc3E hstepL317)
   refine c_seq ?_
   refine c_sr ?_
   refine t_mv rfl rfl ?_
   refine t_mv rfl rfl ?_
   refine t_st rfl (st_neq rfl rfl) ?_
   refine t_ne ?_
   refine c_cond _ rfl (fun hc378 => ?_) (fun hc378 => ?_)
   ·
    rw [if_pos (of_decide_eq_true hc378)] at hm
    refine c_skip ?_
    refine x_then_normal ?_
    refine c_block ?_
    refine c_sr ?_
    refine t_mv rfl rfl ?_
    refine t_mv rfl rfl ?_
    refine t_st rfl (st_gtr rfl rfl) ?_
    refine t_ne ?_
    refine c_cond _ rfl (fun hc379 => ?_) (fun hc379 => ?_)
    ·
     rw [if_pos (of_decide_eq_true hc379)] at hm
     refine c_sr ?_
     refine t_mv rfl rfl ?_
     refine t_mv rfl rfl ?_
     refine t_mv rfl rfl ?_
     obtain ⟨_, h380, hm⟩ := bindS hm
     have h380 := (chk_some h380).2
     refine t_st rfl (st_sub rfl rfl h380) ?_
     refine t_mv rfl rfl ?_
     refine t_mv rfl rfl ?_
     refine t_mv rfl rfl ?_
     obtain ⟨l381, hcl382, hm⟩ := bindS hm
     refine t_pullb 3 rfl ?_
     refine t_pullb 3 rfl ?_
     refine t_pullb 3 rfl ?_
     refine t_pullb 3 rfl ?_
     refine t_front3 [_, _, _, _] hs372 hs7 hs12 R rfl ?_
     refine t_front3 [_, _, _, _] hs12 hs372 hs7 R rfl ?_
     refine t_front3 [_, _, _, _] hs7 hs12 hs372 R rfl ?_
     refine t_out3 [_, _, _, _] [] hs372 hs7 hs12 R rfl ?_
     refine t_callG _ rfl call107 rfl (cSlicesSwapRangeCmpFunc _ _ (x21 - x374) x21 x375 x23 x24 x25 x26 x27 l376 l29 l31 g16 g17 g18 g19 A3 c4 hs372 A8 c9 hs7 A13 c14 hs12 h373 (h10.le hle370) hnz30 (h15.le hle370) hnz32 l381 hcl382) ?_
     rintro _ b383 _ hle384 ⟨hs385, rfl, rfl, h386, h387⟩
     refine t_in3 [_, _, _, _] [] hs385 hs7 hs12 R rfl ?_
     refine t_resp 0 rfl (v' := .slice A3 (l381).length c4) (by rw [h387]) ?_
     refine t_ne ?_
     refine c_region ?_
     refine t_mv rfl rfl ?_
     refine t_mv rfl rfl ?_
     obtain ⟨_, h388, hm⟩ := bindS hm
     have h388 := (chk_some h388).2
     refine t_st rfl (st_sub rfl rfl h388) ?_
     refine t_as rfl rfl ?_
     refine t_nil ?_
     refine x_block_normal ?_
     refine x_pullb 3 rfl ?_
     refine x_pullb 3 rfl ?_
     refine x_pullb 3 rfl ?_
     refine x_pullb 3 rfl ?_
     refine x_front3 [_, _, _, _] hs385 hs7 hs12 R rfl ?_
     refine x_front3 [_, _, _, _] hs12 hs385 hs7 R rfl ?_
     refine x_front3 [_, _, _, _] hs7 hs12 hs385 R rfl ?_
     exact x_againM (x374 - x375, x375, l381) (Option.some.inj hm).symm (e' := [(0, .slice A3 (l381).length c4), (2, .int .i64 (x21)), (4, .func (.func 36) #[] #[.pointer (some ⟨g16, 0, none⟩), .pointer (some ⟨g17, 0, none⟩), .pointer (some ⟨g18, 0, none⟩)]), (10, .int .i64 (x374 - x375)), (11, .int .i64 (x375))]) ⟨rfl, rfl, rfl, rfl, rfl, trivial⟩ (.refl _) ⟨hs385, rfl, rfl, ((hle370.trans hle384)), h386, (h387.trans hln377)⟩
    ·
     rw [if_neg (of_decide_eq_false hc379)] at hm
     refine c_sr ?_
     refine t_mv rfl rfl ?_
     refine t_mv rfl rfl ?_
     refine t_mv rfl rfl ?_
     obtain ⟨_, h389, hm⟩ := bindS hm
     have h389 := (chk_some h389).2
     refine t_st rfl (st_sub rfl rfl h389) ?_
     refine t_mv rfl rfl ?_
     refine t_mv rfl rfl ?_
     obtain ⟨_, h390, hm⟩ := bindS hm
     have h390 := (chk_some h390).2
     refine t_st rfl (st_add rfl rfl h390) ?_
     refine t_mv rfl rfl ?_
     obtain ⟨_, h391, hm⟩ := bindS hm
     have h391 := (chk_some h391).2
     refine t_st rfl (st_sub rfl rfl h391) ?_
     refine t_mv rfl rfl ?_
     refine t_mv rfl rfl ?_
     obtain ⟨l392, hcl393, hm⟩ := bindS hm
     refine t_pullb 3 rfl ?_
     refine t_pullb 3 rfl ?_
     refine t_pullb 3 rfl ?_
     refine t_pullb 3 rfl ?_
     refine t_front3 [_, _, _, _] hs372 hs7 hs12 R rfl ?_
     refine t_front3 [_, _, _, _] hs12 hs372 hs7 R rfl ?_
     refine t_front3 [_, _, _, _] hs7 hs12 hs372 R rfl ?_
     refine t_out3 [_, _, _, _] [] hs372 hs7 hs12 R rfl ?_
     refine t_callG _ rfl call107 rfl (cSlicesSwapRangeCmpFunc _ _ (x21 - x374) ((x21 + x375) - x374) x374 x23 x24 x25 x26 x27 l376 l29 l31 g16 g17 g18 g19 A3 c4 hs372 A8 c9 hs7 A13 c14 hs12 h373 (h10.le hle370) hnz30 (h15.le hle370) hnz32 l392 hcl393) ?_
     rintro _ b394 _ hle395 ⟨hs396, rfl, rfl, h397, h398⟩
     refine t_in3 [_, _, _, _] [] hs396 hs7 hs12 R rfl ?_
     refine t_resp 0 rfl (v' := .slice A3 (l392).length c4) (by rw [h398]) ?_
     refine t_ne ?_
     refine c_region ?_
     refine t_mv rfl rfl ?_
     refine t_mv rfl rfl ?_
     obtain ⟨_, h399, hm⟩ := bindS hm
     have h399 := (chk_some h399).2
     refine t_st rfl (st_sub rfl rfl h399) ?_
     refine t_as rfl rfl ?_
     refine t_nil ?_
     refine x_block_normal ?_
     refine x_pullb 3 rfl ?_
     refine x_pullb 3 rfl ?_
     refine x_pullb 3 rfl ?_
     refine x_pullb 3 rfl ?_
     refine x_front3 [_, _, _, _] hs396 hs7 hs12 R rfl ?_
     refine x_front3 [_, _, _, _] hs12 hs396 hs7 R rfl ?_
     refine x_front3 [_, _, _, _] hs7 hs12 hs396 R rfl ?_
     exact x_againM (x374, x375 - x374, l392) (Option.some.inj hm).symm (e' := [(0, .slice A3 (l392).length c4), (2, .int .i64 (x21)), (4, .func (.func 36) #[] #[.pointer (some ⟨g16, 0, none⟩), .pointer (some ⟨g17, 0, none⟩), .pointer (some ⟨g18, 0, none⟩)]), (10, .int .i64 (x374)), (11, .int .i64 (x375 - x374))]) ⟨rfl, rfl, rfl, rfl, rfl, trivial⟩ (.refl _) ⟨hs396, rfl, rfl, ((hle370.trans hle395)), h397, (h398.trans hln377)⟩
   ·
    rw [if_neg (of_decide_eq_false hc378)] at hm
    refine c_exit ?_
    refine x_then_exit ?_
    refine x_then_exit ?_
    refine x_block_out ?_
    have hm := congrArg some (houtL317 _ (Option.some.inj hm).symm)
    obtain ⟨rfl, rfl⟩ := some2 hm
    refine x_pullb 3 rfl ?_
    refine x_pullb 3 rfl ?_
    refine x_pullb 3 rfl ?_
    refine x_pullb 3 rfl ?_
    refine x_front3 [_, _, _, _] hs372 hs7 hs12 R rfl ?_
    refine x_front3 [_, _, _, _] hs12 hs372 hs7 R rfl ?_
    refine x_front3 [_, _, _, _] hs7 hs12 hs372 R rfl ?_
    exact x_join (e' := [(0, .slice A3 (l376).length c4), (2, .int .i64 (x21)), (4, .func (.func 36) #[] #[.pointer (some ⟨g16, 0, none⟩), .pointer (some ⟨g17, 0, none⟩), .pointer (some ⟨g18, 0, none⟩)]), (10, .int .i64 (x374))]) ⟨rfl, rfl, rfl, rfl, trivial⟩ (.refl _) ⟨hs372, rfl, rfl, hle370, h373, hln377⟩
  ·
   rintro b308 _ _ ⟨hs311, rfl, rfl, hle309, h312, hln315⟩
   have hm := (unc2E hk316)
   refine c_region ?_
   refine t_mv rfl rfl ?_
   refine t_mv rfl rfl ?_
   refine t_mv rfl rfl ?_
   obtain ⟨_, h400, hm⟩ := bindS hm
   have h400 := (chk_some h400).2
   refine t_st rfl (st_sub rfl rfl h400) ?_
   refine t_mv rfl rfl ?_
   refine t_mv rfl rfl ?_
   refine t_mv rfl rfl ?_
   obtain ⟨l401, hcl402, hm⟩ := bindS hm
   refine t_pullb 3 rfl ?_
   refine t_pullb 3 rfl ?_
   refine t_pullb 3 rfl ?_
   refine t_pullb 3 rfl ?_
   refine t_front3 [_, _, _, _] hs311 hs7 hs12 R rfl ?_
   refine t_front3 [_, _, _, _] hs12 hs311 hs7 R rfl ?_
   refine t_front3 [_, _, _, _] hs7 hs12 hs311 R rfl ?_
   refine t_out3 [_, _, _, _] [] hs311 hs7 hs12 R rfl ?_
   refine t_callG _ rfl call107 rfl (cSlicesSwapRangeCmpFunc _ _ (x21 - x313) x21 x313 x23 x24 x25 x26 x27 l314 l29 l31 g16 g17 g18 g19 A3 c4 hs311 A8 c9 hs7 A13 c14 hs12 h312 (h10.le hle309) hnz30 (h15.le hle309) hnz32 l401 hcl402) ?_
   rintro _ b403 _ hle404 ⟨hs405, rfl, rfl, h406, h407⟩
   refine t_in3 [_, _, _, _] [] hs405 hs7 hs12 R rfl ?_
   refine t_nil ?_
   obtain rfl := some1 hm
   refine x_pullb 3 rfl ?_
   refine x_pullb 3 rfl ?_
   refine x_pullb 3 rfl ?_
   refine x_pullb 3 rfl ?_
   refine x_front3 [_, _, _, _] hs405 hs7 hs12 R rfl ?_
   refine x_front3 [_, _, _, _] hs12 hs405 hs7 R rfl ?_
   refine x_front3 [_, _, _, _] hs7 hs12 hs405 R rfl ?_
   exact endM (hle309.trans hle404) rfl (.refl _) ⟨hs405, rfl, rfl, h406, (h407.trans hln315)⟩

set_option maxRecDepth 20000 in
theorem cSlicesSymMergeCmpFunc : ∀ (N : Nat) (b : Base) (R : Hp) (x20 : Int) (x21 : Int) (x22 : Int) (x23 : Int) (x24 : Int) (x25 : Int) (x26 : Int) (x27 : Int) (l28 : (List Int)) (l29 : (List FareBooking)) (l31 : (List Bool)) (g16 : Nat) (g17 : Nat) (g18 : Nat) (g19 : Nat) (A3 : Option Addr) (c4 : Nat) (hs2 : Hp) (A8 : Option Addr) (c9 : Nat) (hs7 : Hp) (A13 : Option Addr) (c14 : Nat) (hs12 : Hp) (h5 : OS 3 (OT.fr (RT.int .i64)) b.w (.slice A3 l28.length c4) l28 hs2) (h10 : OS 32 (OT.fr rFareBooking) b.w (.slice A8 l29.length c9) l29 hs7) (hnz30 : (A8 = none ↔ l29 = [])) (h15 : OS 4 (OT.fr RT.bool) b.w (.slice A13 l31.length c14) l31 hs12) (hnz32 : (A13 = none ↔ l31 = [])) (l6699 : (List Int)) (hm : mSlicesSymMergeCmpFunc N x20 x21 x22 x23 x24 x25 x26 x27 l28 l29 l31 = some l6699),
    CallsG Tryz.prog 59 [.slice A3 (l28).length c4, .int .i64 (x20), .int .i64 (x21), .int .i64 (x22), .func (.func 36) #[] #[.pointer (some ⟨g16, 0, none⟩), .pointer (some ⟨g17, 0, none⟩), .pointer (some ⟨g18, 0, none⟩)]] b ((g16, Cl 24 [.pointer (some ⟨g19, 0, none⟩)]) :: (g17, Cl 3 [.int .i64 (x23)]) :: (g18, Cl 3 [.int .i64 (x24)]) :: (g19, Cl 54 [.int .i64 (x25), .int .i64 (x26), .int .i64 (x27), .slice A8 (l29).length c9, .slice A13 (l31).length c14]) :: (hs2 ++ (hs7 ++ (hs12 ++ R)))) (fun v b' hp' => ∃ (hs6697 : Hp), .tuple #[] = v ∧ (g16, Cl 24 [.pointer (some ⟨g19, 0, none⟩)]) :: (g17, Cl 3 [.int .i64 (x23)]) :: (g18, Cl 3 [.int .i64 (x24)]) :: (g19, Cl 54 [.int .i64 (x25), .int .i64 (x26), .int .i64 (x27), .slice A8 (l29).length c9, .slice A13 (l31).length c14]) :: (hs6697 ++ (hs7 ++ (hs12 ++ R))) = hp' ∧ OS 3 (OT.fr (RT.int .i64)) b'.w (.slice A3 l6699.length c4) l6699 hs6697 ∧ l6699.length = l28.length) := by
  intro N
  induction N with
  | zero =>
    intro b R x20 x21 x22 x23 x24 x25 x26 x27 l28 l29 l31 g16 g17 g18 g19 A3 c4 hs2 A8 c9 hs7 A13 c14 hs12 h5 h10 hnz30 h15 hnz32 l6699 hm
    unfold mSlicesSymMergeCmpFunc at hm
    cases hm
  | succ N ih =>
    intro b R x20 x21 x22 x23 x24 x25 x26 x27 l28 l29 l31 g16 g17 g18 g19 A3 c4 hs2 A8 c9 hs7 A13 c14 hs12 h5 h10 hnz30 h15 hnz32 l6699 hm
    refine fn_enterG 220 Tryz.func59 rfl Tryz.ntmps59 rfl ?_
    unfold mSlicesSymMergeCmpFunc at hm
    refine c_seq ?_
    refine c_sr ?_
    refine t_mv rfl rfl ?_
    refine t_mv rfl rfl ?_
    obtain ⟨_, h6701, hm⟩ := bindS hm
    have h6701 := (chk_some h6701).2
    refine t_st rfl (st_sub rfl rfl h6701) ?_
    refine t_st rfl (st_eql rfl rfl) ?_
    refine t_ne ?_
    refine c_cond _ rfl (fun hc6702 => ?_) (fun hc6702 => ?_)
    ·
     rw [if_pos (of_decide_eq_true hc6702)] at hm
     refine c_sr ?_
     refine t_mv rfl rfl ?_
     refine t_as rfl rfl ?_
     refine t_ne ?_
     refine c_sr ?_
     refine t_mv rfl rfl ?_
     refine t_as rfl rfl ?_
     refine t_ne ?_
     obtain ⟨x6943, hj6944, hk6944⟩ := bindS hm
     refine c_join (fun b6941 e' hp' => [(0, .slice A3 (l28).length c4), (1, .int .i64 (x20)), (10, .int .i64 (x6943))] = e' ∧ (g16, Cl 24 [.pointer (some ⟨g19, 0, none⟩)]) :: (g17, Cl 3 [.int .i64 (x23)]) :: (g18, Cl 3 [.int .i64 (x24)]) :: (g19, Cl 54 [.int .i64 (x25), .int .i64 (x26), .int .i64 (x27), .slice A8 (l29).length c9, .slice A13 (l31).length c14]) :: (hs2 ++ (hs7 ++ (hs12 ++ R))) = hp' ∧ b.Le b6941) ?_ ?_
     ·
      have hm := hj6944
      refine c_block ?_
      refine c_pullb 3 rfl ?_
      refine c_pullb 3 rfl ?_
      refine c_pullb 3 rfl ?_
      refine c_pullb 3 rfl ?_
      refine c_front3 [_, _, _, _] hs2 hs7 hs12 R rfl ?_
      refine c_front3 [_, _, _, _] hs12 hs2 hs7 R rfl ?_
      refine c_front3 [_, _, _, _] hs7 hs12 hs2 R rfl ?_
      refine c_loopM (unc2 fun x7104 x7105 => fun b7102 e' hp' => [(0, .slice A3 (l28).length c4), (1, .int .i64 (x20)), (4, .func (.func 36) #[] #[.pointer (some ⟨g16, 0, none⟩), .pointer (some ⟨g17, 0, none⟩), .pointer (some ⟨g18, 0, none⟩)]), (10, .int .i64 (x7104)), (11, .int .i64 (x7105))] = e' ∧ (g16, Cl 24 [.pointer (some ⟨g19, 0, none⟩)]) :: (g17, Cl 3 [.int .i64 (x23)]) :: (g18, Cl 3 [.int .i64 (x24)]) :: (g19, Cl 54 [.int .i64 (x25), .int .i64 (x26), .int .i64 (x27), .slice A8 (l29).length c9, .slice A13 (l31).length c14]) :: (hs2 ++ (hs7 ++ (hs12 ++ R))) = hp' ∧ b.Le b7102) hm (e' := [(0, .slice A3 (l28).length c4), (1, .int .i64 (x20)), (4, .func (.func 36) #[] #[.pointer (some ⟨g16, 0, none⟩), .pointer (some ⟨g17, 0, none⟩), .pointer (some ⟨g18, 0, none⟩)]), (10, .int .i64 (x21)), (11, .int .i64 (x22))]) ⟨rfl, rfl, rfl, rfl, rfl, trivial⟩ (.refl _) ⟨rfl, rfl, (Base.Le.refl _)⟩ ?_
      rintro ⟨x7104, x7105⟩ b7102 _ _ oL6945 ⟨rfl, rfl, hle7103⟩ hstepL6945 houtL6945
      unfold mSlicesSymMergeCmpFunc_L6945 at hstepL6945
      have hm := (unc2E hstepL6945)
      refine c_seq ?_
      refine c_sr ?_
      refine t_mv rfl rfl ?_
      refine t_mv rfl rfl ?_
      refine t_st rfl (st_lss rfl rfl) ?_
      refine t_ne ?_
      refine c_cond _ rfl (fun hc7106 => ?_) (fun hc7106 => ?_)
      ·
       rw [if_pos (of_decide_eq_true hc7106)] at hm
       refine c_skip ?_
       refine x_then_normal ?_
       refine c_block ?_
       refine c_sr ?_
       refine t_mv rfl rfl ?_
       refine t_mv rfl rfl ?_
       obtain ⟨_, h7107, hm⟩ := bindS hm
       have h7107 := (chk_some h7107).2
       refine t_st rfl (st_add rfl rfl h7107) ?_
       refine t_st rfl (st_conv rfl int3_i64 int110_u64) ?_
       obtain ⟨_, h7108, hm⟩ := bindS hm
       have h7108 := shN_some h7108
       refine t_st rfl (st_shr rfl rfl h7108) ?_
       refine t_st rfl (st_conv rfl int110_u64 int3_i64) ?_
       refine t_as rfl rfl ?_
       refine t_ne ?_
       refine c_seq ?_
       obtain ⟨x7145, h7146, hm⟩ := bindS hm
       obtain ⟨x7161, h7162, hm⟩ := bindS hm
       obtain ⟨x7177, hcl7178, hm⟩ := bindS hm
       refine D_drawI mixed (.refl _) ?_
       refine E_s0 0 rfl (st_move rfl) ?_
       refine E_s0 1 rfl (st_move rfl) ?_
       refine E_s0 2 rfl (st_move rfl) ?_
       obtain ⟨j7147, hj7148, hx7149⟩ := idx_some h7146
       obtain ⟨cs7150, hs7155, P7156, P7157, hq7158, hr7151, hcs7152, hA7153, hlt7154, hb7159, hho7160⟩ := OS.get (sz := 1) rfl (by decide) (h5.le hle7103) hx7149
       obtain ⟨rfl, rfl⟩ := hr7151
       refine E_s0 3 rfl (st_index_old j7147 rfl rfl hj7148 hlt7154 hA7153 sl22) ?_
       refine E_st 4 rfl (st_load_rd rfl one3 (fun w ho => hcs7152 w _ ho (.cons _ (.cons _ (.cons _ (.cons _ (List.sublist_append_left _ _))))) 0 _ rfl)) ?_
       refine E_s0 5 rfl (st_move rfl) ?_
       refine E_s0 6 rfl (st_move rfl) ?_
       obtain ⟨j7163, hj7164, hx7165⟩ := idx_some h7162
       obtain ⟨cs7166, hs7171, P7172, P7173, hq7174, hr7167, hcs7168, hA7169, hlt7170, hb7175, hho7176⟩ := OS.get (sz := 1) rfl (by decide) (h5.le hle7103) hx7165
       obtain ⟨rfl, rfl⟩ := hr7167
       refine E_s0 7 rfl (st_index_old j7163 rfl rfl hj7164 hlt7170 hA7169 sl22) ?_
       refine E_st 8 rfl (st_load_rd rfl one3 (fun w ho => hcs7168 w _ ho (.cons _ (.cons _ (.cons _ (.cons _ (List.sublist_append_left _ _))))) 0 _ rfl)) ?_
       refine E_out ?_
       refine d_pullb 3 rfl ?_
       refine d_pullb 3 rfl ?_
       refine d_pullb 3 rfl ?_
       refine d_pullb 3 rfl ?_
       refine d_front3 [_, _, _, _] hs2 hs7 hs12 R rfl ?_
       refine d_front3 [_, _, _, _] hs12 hs2 hs7 R rfl ?_
       refine d_out2 [_, _, _, _] [] hs7 hs12 (hs2 ++ R) rfl ?_
       refine D_all [9] (by kernel_rfl) rfl ?_
       refine R_callvG (Base.Le.refl _) rfl rfl #[] #[.pointer (some ⟨g16, 0, none⟩), .pointer (some ⟨g17, 0, none⟩), .pointer (some ⟨g18, 0, none⟩)] [.int .i64 (x7145), .int .i64 (x7161)] rfl call36 rfl (cFareCarChoose_1 _ _ x7145 x7161 x23 x24 x25 x26 x27 l29 l31 g16 g17 g18 g19 A8 c9 hs7 A13 c14 hs12 (h10.le hle7103) hnz30 (h15.le hle7103) hnz32 x7177 hcl7178) ?_ ?_
       ·
        rintro _ b7179 _ hle7180 ⟨rfl, rfl⟩
        refine ⟨.inl (by kernel_rfl), ?_⟩
        refine d_in2 [_, _, _, _] [] hs7 hs12 (hs2 ++ R) rfl ?_
        refine E_il hle7180 ?_
        refine E_s0 10 rfl (st_lss rfl rfl) ?_
        refine E_out ?_
        refine D_done (by kernel_rfl) ?_
        refine x_then_normal ?_
        refine c_cond _ rfl (fun hc7181 => ?_) (fun hc7181 => ?_)
        ·
         rw [if_pos (of_decide_eq_true hc7181)] at hm
         refine c_region ?_
         refine t_mv rfl rfl ?_
         obtain ⟨_, h7182, hm⟩ := bindS hm
         have h7182 := (chk_some h7182).2
         refine t_st rfl (st_add rfl rfl h7182) ?_
         refine t_as rfl rfl ?_
         refine t_nil ?_
         refine x_block_normal ?_
         refine x_pullb 3 rfl ?_
         refine x_pullb 3 rfl ?_
         refine x_pullb 3 rfl ?_
         refine x_pullb 3 rfl ?_
         refine x_front2 [_, _, _, _] hs7 hs12 (hs2 ++ R) rfl ?_
         refine x_front2 [_, _, _, _] hs12 hs7 (hs2 ++ R) rfl ?_
         refine x_front3 [_, _, _, _] hs7 hs12 hs2 R rfl ?_
         exact x_againM ((IntKind.wrap .i64 (shrI .u64 (IntKind.wrap .u64 (x7104 + x7105)) 1)) + 1, x7105) (Option.some.inj hm).symm (e' := [(0, .slice A3 (l28).length c4), (1, .int .i64 (x20)), (4, .func (.func 36) #[] #[.pointer (some ⟨g16, 0, none⟩), .pointer (some ⟨g17, 0, none⟩), .pointer (some ⟨g18, 0, none⟩)]), (10, .int .i64 ((IntKind.wrap .i64 (shrI .u64 (IntKind.wrap .u64 (x7104 + x7105)) 1)) + 1)), (11, .int .i64 (x7105))]) ⟨rfl, rfl, rfl, rfl, rfl, trivial⟩ (.refl _) ⟨rfl, rfl, ((hle7103.trans hle7180))⟩
        ·
         rw [if_neg (of_decide_eq_false hc7181)] at hm
         refine c_region ?_
         refine t_mv rfl rfl ?_
         refine t_as rfl rfl ?_
         refine t_nil ?_
         refine x_block_normal ?_
         refine x_pullb 3 rfl ?_
         refine x_pullb 3 rfl ?_
         refine x_pullb 3 rfl ?_
         refine x_pullb 3 rfl ?_
         refine x_front2 [_, _, _, _] hs7 hs12 (hs2 ++ R) rfl ?_
         refine x_front2 [_, _, _, _] hs12 hs7 (hs2 ++ R) rfl ?_
         refine x_front3 [_, _, _, _] hs7 hs12 hs2 R rfl ?_
         exact x_againM (x7104, IntKind.wrap .i64 (shrI .u64 (IntKind.wrap .u64 (x7104 + x7105)) 1)) (Option.some.inj hm).symm (e' := [(0, .slice A3 (l28).length c4), (1, .int .i64 (x20)), (4, .func (.func 36) #[] #[.pointer (some ⟨g16, 0, none⟩), .pointer (some ⟨g17, 0, none⟩), .pointer (some ⟨g18, 0, none⟩)]), (10, .int .i64 (x7104)), (11, .int .i64 (IntKind.wrap .i64 (shrI .u64 (IntKind.wrap .u64 (x7104 + x7105)) 1)))]) ⟨rfl, rfl, rfl, rfl, rfl, trivial⟩ (.refl _) ⟨rfl, rfl, ((hle7103.trans hle7180))⟩
       exact R_nil
      ·
       rw [if_neg (of_decide_eq_false hc7106)] at hm
       refine c_exit ?_
       refine x_then_exit ?_
       refine x_then_exit ?_
       refine x_block_out ?_
       have hm := congrArg some (houtL6945 _ (Option.some.inj hm).symm)
       obtain rfl := some1 hm
       refine x_pullb 3 rfl ?_
       refine x_pullb 3 rfl ?_
       refine x_pullb 3 rfl ?_
       refine x_pullb 3 rfl ?_
       refine x_front3 [_, _, _, _] hs2 hs7 hs12 R rfl ?_
       refine x_front3 [_, _, _, _] hs12 hs2 hs7 R rfl ?_
       refine x_front3 [_, _, _, _] hs7 hs12 hs2 R rfl ?_
       exact x_join (e' := [(0, .slice A3 (l28).length c4), (1, .int .i64 (x20)), (10, .int .i64 (x7104))]) ⟨rfl, rfl, rfl, trivial⟩ (.refl _) ⟨rfl, rfl, hle7103⟩
     ·
      rintro b6941 _ _ ⟨rfl, rfl, hle6942⟩
      have hm := hk6944
      obtain ⟨l7632, hj7634, hk7634⟩ := bindS hm
      refine c_join (fun b7627 e' hp' => ∃ (hs7630 : Hp), [] = e' ∧ (g16, Cl 24 [.pointer (some ⟨g19, 0, none⟩)]) :: (g17, Cl 3 [.int .i64 (x23)]) :: (g18, Cl 3 [.int .i64 (x24)]) :: (g19, Cl 54 [.int .i64 (x25), .int .i64 (x26), .int .i64 (x27), .slice A8 (l29).length c9, .slice A13 (l31).length c14]) :: (hs7630 ++ (hs7 ++ (hs12 ++ R))) = hp' ∧ b6941.Le b7627 ∧ OS 3 (OT.fr (RT.int .i64)) b7627.w (.slice A3 l7632.length c4) l7632 hs7630 ∧ l7632.length = l28.length) ?_ ?_
      ·
       have hm := hj7634
       refine c_sr ?_
       refine t_mv rfl rfl ?_
       refine t_as rfl rfl ?_
       refine t_ne ?_
       refine c_block ?_
       refine c_pullb 3 rfl ?_
       refine c_pullb 3 rfl ?_
       refine c_pullb 3 rfl ?_
       refine c_pullb 3 rfl ?_
       refine c_front3 [_, _, _, _] hs2 hs7 hs12 R rfl ?_
       refine c_front3 [_, _, _, _] hs12 hs2 hs7 R rfl ?_
       refine c_front3 [_, _, _, _] hs7 hs12 hs2 R rfl ?_
       refine c_loopM (unc2 fun x7933 l7934 => fun b7928 e' hp' => ∃ (hs7931 : Hp), [(0, .slice A3 (l7934).length c4), (10, .int .i64 (x6943)), (13, .int .i64 (x7933))] = e' ∧ (g16, Cl 24 [.pointer (some ⟨g19, 0, none⟩)]) :: (g17, Cl 3 [.int .i64 (x23)]) :: (g18, Cl 3 [.int .i64 (x24)]) :: (g19, Cl 54 [.int .i64 (x25), .int .i64 (x26), .int .i64 (x27), .slice A8 (l29).length c9, .slice A13 (l31).length c14]) :: (hs7931 ++ (hs7 ++ (hs12 ++ R))) = hp' ∧ b6941.Le b7928 ∧ OS 3 (OT.fr (RT.int .i64)) b7928.w (.slice A3 l7934.length c4) l7934 hs7931 ∧ l7934.length = l28.length) hm (e' := [(0, .slice A3 (l28).length c4), (10, .int .i64 (x6943)), (13, .int .i64 (x20))]) ⟨rfl, rfl, rfl, trivial⟩ (.refl _) ⟨hs2, rfl, rfl, (Base.Le.refl _), (h5.le hle6942), rfl⟩ ?_
       rintro ⟨x7933, l7934⟩ b7928 _ _ oL7635 ⟨hs7931, rfl, rfl, hle7929, h7932, hln7935⟩ hstepL7635 houtL7635
       unfold mSlicesSymMergeCmpFunc_L7635 at hstepL7635
       have hm := (unc2E hstepL7635)
       refine c_seq ?_
       refine c_sr ?_
       refine t_mv rfl rfl ?_
       refine t_mv rfl rfl ?_
       obtain ⟨_, h7936, hm⟩ := bindS hm
       have h7936 := (chk_some h7936).2
       refine t_st rfl (st_sub rfl rfl h7936) ?_
       refine t_st rfl (st_lss rfl rfl) ?_
       refine t_ne ?_
       refine c_cond _ rfl (fun hc7937 => ?_) (fun hc7937 => ?_)
       ·
        rw [if_pos (of_decide_eq_true hc7937)] at hm
        refine c_skip ?_
        refine x_then_normal ?_
        refine c_seq ?_
        refine c_block ?_
        obtain ⟨_, h8008, hm⟩ := bindS hm
        obtain ⟨_, h8009, hm⟩ := bindS hm
        obtain ⟨x8010, h8011, hm⟩ := bindS hm
        obtain ⟨x8026, h8027, hm⟩ := bindS hm
        obtain ⟨x8042, h8043, hm⟩ := bindS hm
        obtain ⟨x8060, h8061, hm⟩ := bindS hm
        refine D_drawI mixed (.refl _) ?_
        refine E_s0 0 rfl (st_move rfl) ?_
        refine E_s0 1 rfl (st_move rfl) ?_
        refine E_s0 2 rfl (st_move rfl) ?_
        refine E_s0 3 rfl (st_move rfl) ?_
        have h8008 := (chk_some h8008).2
        refine E_s0 4 rfl (st_add rfl rfl h8008) ?_
        refine E_s0 5 rfl (st_move rfl) ?_
        refine E_s0 6 rfl (st_move rfl) ?_
        have h8009 := (chk_some h8009).2
        refine E_s0 7 rfl (st_add rfl rfl h8009) ?_
        obtain ⟨j8012, hj8013, hx8014⟩ := idx_some h8011
        obtain ⟨cs8015, hs8020, P8021, P8022, hq8023, hr8016, hcs8017, hA8018, hlt8019, hb8024, hho8025⟩ := OS.get (sz := 1) rfl (by decide) h7932 hx8014
        obtain ⟨rfl, rfl⟩ := hr8016
        refine E_s0 8 rfl (st_index_old j8012 rfl rfl hj8013 hlt8019 hA8018 sl22) ?_
        refine E_st 9 rfl (st_load_rd rfl one3 (fun w ho => hcs8017 w _ ho (.cons _ (.cons _ (.cons _ (.cons _ (List.sublist_append_left _ _))))) 0 _ rfl)) ?_
        refine E_s0 10 rfl (st_move rfl) ?_
        refine E_s0 11 rfl (st_move rfl) ?_
        obtain ⟨j8028, hj8029, hx8030⟩ := idx_some h8027
        obtain ⟨cs8031, hs8036, P8037, P8038, hq8039, hr8032, hcs8033, hA8034, hlt8035, hb8040, hho8041⟩ := OS.get (sz := 1) rfl (by decide) h7932 hx8030
        obtain ⟨rfl, rfl⟩ := hr8032
        refine E_s0 12 rfl (st_index_old j8028 rfl rfl hj8029 hlt8035 hA8034 sl22) ?_
        refine E_st 13 rfl (st_load_rd rfl one3 (fun w ho => hcs8033 w _ ho (.cons _ (.cons _ (.cons _ (.cons _ (List.sublist_append_left _ _))))) 0 _ rfl)) ?_
        obtain ⟨j8044, hj8045, hx8046⟩ := idx_some h8043
        obtain ⟨cs8047, hs8052, P8053, P8054, hq8055, hr8048, hcs8049, hA8050, hlt8051, hb8056, hho8057⟩ := OS.get (sz := 1) rfl (by decide) h7932 hx8046
        obtain ⟨rfl, rfl⟩ := hr8048
        refine E_s0 14 rfl (st_index_old j8044 rfl rfl hj8045 hlt8051 hA8050 sl22) ?_
        refine E_out ?_
        refine D_all [15] (by kernel_rfl) rfl ?_
        refine R_do (Base.Le.refl _) rfl rfl (u_putOS hj8045 (sz := 1) (a' := x8010) rfl [_, _, _, _] (hs7 ++ (hs12 ++ R)) 0 1 [.int .i64 (x8010)] rfl h7932 hx8046 rfl rfl rfl siz3 rfl (mem_c rfl mem_n) (fun cs hsj hh => by obtain ⟨rfl, rfl⟩ := hh; exact ⟨by decide, rfl, rfl⟩)) ?_ ?_
        ·
         rintro _ _ ⟨hs8058, rfl, h8059⟩
         refine ⟨.inl (by kernel_rfl), ?_⟩
         refine d_resp 0 rfl (v' := .slice A3 (put l7934 x7933 x8010).length c4) (by simp only [put_length]) ?_
         refine d_resp 63 rfl (v' := .slice A3 (put l7934 x7933 x8010).length c4) (by simp only [put_length]) ?_
         obtain ⟨j8062, hj8063, hx8064⟩ := idx_some h8061
         obtain ⟨cs8065, hs8070, P8071, P8072, hq8073, hr8066, hcs8067, hA8068, hlt8069, hb8074, hho8075⟩ := OS.get (sz := 1) rfl (by decide) h8059 hx8064
         obtain ⟨rfl, rfl⟩ := hr8066
         refine E_il (Base.Le.refl _) ?_
         refine E_s0 16 rfl (st_index_old j8062 rfl rfl hj8063 hlt8069 hA8068 sl22) ?_
         refine E_out ?_
         refine D_all [17] (by kernel_rfl) rfl ?_
         refine R_do (Base.Le.refl _) rfl rfl (u_putOS hj8063 (sz := 1) (a' := x8026) rfl [_, _, _, _] (hs7 ++ (hs12 ++ R)) 0 1 [.int .i64 (x8026)] rfl h8059 hx8064 rfl rfl rfl siz3 rfl (mem_c rfl mem_n) (fun cs hsj hh => by obtain ⟨rfl, rfl⟩ := hh; exact ⟨by decide, rfl, rfl⟩)) ?_ ?_
         ·
          rintro _ _ ⟨hs8076, rfl, h8077⟩
          refine ⟨.inl (by kernel_rfl), ?_⟩
          refine d_resp 0 rfl (v' := .slice A3 (put (put l7934 x7933 x8010) (x7933 + 1) x8026).length c4) (by simp only [put_length]) ?_
          refine D_done (by kernel_rfl) ?_
          refine x_block_normal ?_
          refine x_then_normal ?_
          refine c_region ?_
          refine t_mv rfl rfl ?_
          obtain ⟨_, h8078, hm⟩ := bindS hm
          have h8078 := (chk_some h8078).2
          refine t_st rfl (st_add rfl rfl h8078) ?_
          refine t_as rfl rfl ?_
          refine t_nil ?_
          refine x_pullb 3 rfl ?_
          refine x_pullb 3 rfl ?_
          refine x_pullb 3 rfl ?_
          refine x_pullb 3 rfl ?_
          refine x_front3 [_, _, _, _] hs8076 hs7 hs12 R rfl ?_
          refine x_front3 [_, _, _, _] hs12 hs8076 hs7 R rfl ?_
          refine x_front3 [_, _, _, _] hs7 hs12 hs8076 R rfl ?_
          exact x_againM (x7933 + 1, put (put l7934 x7933 x8010) (x7933 + 1) x8026) (Option.some.inj hm).symm (e' := [(0, .slice A3 (put (put l7934 x7933 x8010) (x7933 + 1) x8026).length c4), (10, .int .i64 (x6943)), (13, .int .i64 (x7933 + 1))]) ⟨rfl, rfl, rfl, trivial⟩ (.refl _) ⟨hs8076, rfl, rfl, (hle7929), h8077, ((put_length _ _ _).trans ((put_length _ _ _).trans hln7935))⟩
         exact R_nil
        exact R_nil
       ·
        rw [if_neg (of_decide_eq_false hc7937)] at hm
        refine c_exit ?_
        refine x_then_exit ?_
        refine x_then_exit ?_
        refine x_block_out ?_
        have hm := congrArg some (houtL7635 _ (Option.some.inj hm).symm)
        obtain rfl := some1 hm
        refine x_pullb 3 rfl ?_
        refine x_pullb 3 rfl ?_
        refine x_pullb 3 rfl ?_
        refine x_pullb 3 rfl ?_
        refine x_front3 [_, _, _, _] hs7931 hs7 hs12 R rfl ?_
        refine x_front3 [_, _, _, _] hs12 hs7931 hs7 R rfl ?_
        refine x_front3 [_, _, _, _] hs7 hs12 hs7931 R rfl ?_
        exact x_join (e' := []) trivial (.refl _) ⟨hs7931, rfl, rfl, hle7929, h7932, hln7935⟩
      ·
       rintro b7627 _ _ ⟨hs7630, rfl, rfl, hle7628, h7631, hln7633⟩
       have hm := hk7634
       refine c_ret ?_
       refine x_then_ret ?_
       obtain rfl := some1 hm
       refine x_pullb 3 rfl ?_
       refine x_pullb 3 rfl ?_
       refine x_pullb 3 rfl ?_
       refine x_pullb 3 rfl ?_
       refine x_front3 [_, _, _, _] hs7630 hs7 hs12 R rfl ?_
       refine x_front3 [_, _, _, _] hs12 hs7630 hs7 R rfl ?_
       refine x_front3 [_, _, _, _] hs7 hs12 hs7630 R rfl ?_
       exact retM (rs := []) [] (hle6942.trans hle7628) (by decide) rfl trivial rfl (.refl _) ⟨hs7630, rfl, rfl, h7631, hln7633⟩
    ·
     rw [if_neg (of_decide_eq_false hc6702)] at hm
     refine c_skip ?_
     refine x_then_normal ?_
     refine c_seq ?_
     refine c_sr ?_
     refine t_mv rfl rfl ?_
     refine t_mv rfl rfl ?_
     obtain ⟨_, h8079, hm⟩ := bindS hm
     have h8079 := (chk_some h8079).2
     refine t_st rfl (st_sub rfl rfl h8079) ?_
     refine t_st rfl (st_eql rfl rfl) ?_
     refine t_ne ?_
     refine c_cond _ rfl (fun hc8080 => ?_) (fun hc8080 => ?_)
     ·
      rw [if_pos (of_decide_eq_true hc8080)] at hm
      refine c_sr ?_
      refine t_mv rfl rfl ?_
      refine t_as rfl rfl ?_
      refine t_ne ?_
      refine c_sr ?_
      refine t_mv rfl rfl ?_
      refine t_as rfl rfl ?_
      refine t_ne ?_
      obtain ⟨x8321, hj8322, hk8322⟩ := bindS hm
      refine c_join (fun b8319 e' hp' => [(0, .slice A3 (l28).length c4), (2, .int .i64 (x21)), (14, .int .i64 (x8321))] = e' ∧ (g16, Cl 24 [.pointer (some ⟨g19, 0, none⟩)]) :: (g17, Cl 3 [.int .i64 (x23)]) :: (g18, Cl 3 [.int .i64 (x24)]) :: (g19, Cl 54 [.int .i64 (x25), .int .i64 (x26), .int .i64 (x27), .slice A8 (l29).length c9, .slice A13 (l31).length c14]) :: (hs2 ++ (hs7 ++ (hs12 ++ R))) = hp' ∧ b.Le b8319) ?_ ?_
      ·
       have hm := hj8322
       refine c_block ?_
       refine c_pullb 3 rfl ?_
       refine c_pullb 3 rfl ?_
       refine c_pullb 3 rfl ?_
       refine c_pullb 3 rfl ?_
       refine c_front3 [_, _, _, _] hs2 hs7 hs12 R rfl ?_
       refine c_front3 [_, _, _, _] hs12 hs2 hs7 R rfl ?_
       refine c_front3 [_, _, _, _] hs7 hs12 hs2 R rfl ?_
       refine c_loopM (unc2 fun x8482 x8483 => fun b8480 e' hp' => [(0, .slice A3 (l28).length c4), (2, .int .i64 (x21)), (4, .func (.func 36) #[] #[.pointer (some ⟨g16, 0, none⟩), .pointer (some ⟨g17, 0, none⟩), .pointer (some ⟨g18, 0, none⟩)]), (14, .int .i64 (x8482)), (15, .int .i64 (x8483))] = e' ∧ (g16, Cl 24 [.pointer (some ⟨g19, 0, none⟩)]) :: (g17, Cl 3 [.int .i64 (x23)]) :: (g18, Cl 3 [.int .i64 (x24)]) :: (g19, Cl 54 [.int .i64 (x25), .int .i64 (x26), .int .i64 (x27), .slice A8 (l29).length c9, .slice A13 (l31).length c14]) :: (hs2 ++ (hs7 ++ (hs12 ++ R))) = hp' ∧ b.Le b8480) hm (e' := [(0, .slice A3 (l28).length c4), (2, .int .i64 (x21)), (4, .func (.func 36) #[] #[.pointer (some ⟨g16, 0, none⟩), .pointer (some ⟨g17, 0, none⟩), .pointer (some ⟨g18, 0, none⟩)]), (14, .int .i64 (x20)), (15, .int .i64 (x21))]) ⟨rfl, rfl, rfl, rfl, rfl, trivial⟩ (.refl _) ⟨rfl, rfl, (Base.Le.refl _)⟩ ?_
       rintro ⟨x8482, x8483⟩ b8480 _ _ oL8323 ⟨rfl, rfl, hle8481⟩ hstepL8323 houtL8323
       unfold mSlicesSymMergeCmpFunc_L8323 at hstepL8323
       have hm := (unc2E hstepL8323)
       refine c_seq ?_
       refine c_sr ?_
       refine t_mv rfl rfl ?_
       refine t_mv rfl rfl ?_
       refine t_st rfl (st_lss rfl rfl) ?_
       refine t_ne ?_
       refine c_cond _ rfl (fun hc8484 => ?_) (fun hc8484 => ?_)
       ·
        rw [if_pos (of_decide_eq_true hc8484)] at hm
        refine c_skip ?_
        refine x_then_normal ?_
        refine c_block ?_
        refine c_sr ?_
        refine t_mv rfl rfl ?_
        refine t_mv rfl rfl ?_
        obtain ⟨_, h8485, hm⟩ := bindS hm
        have h8485 := (chk_some h8485).2
        refine t_st rfl (st_add rfl rfl h8485) ?_
        refine t_st rfl (st_conv rfl int3_i64 int110_u64) ?_
        obtain ⟨_, h8486, hm⟩ := bindS hm
        have h8486 := shN_some h8486
        refine t_st rfl (st_shr rfl rfl h8486) ?_
        refine t_st rfl (st_conv rfl int110_u64 int3_i64) ?_
        refine t_as rfl rfl ?_
        refine t_ne ?_
        refine c_seq ?_
        obtain ⟨x8523, h8524, hm⟩ := bindS hm
        obtain ⟨x8539, h8540, hm⟩ := bindS hm
        obtain ⟨x8555, hcl8556, hm⟩ := bindS hm
        refine D_drawI mixed (.refl _) ?_
        refine E_s0 0 rfl (st_move rfl) ?_
        refine E_s0 1 rfl (st_move rfl) ?_
        refine E_s0 2 rfl (st_move rfl) ?_
        obtain ⟨j8525, hj8526, hx8527⟩ := idx_some h8524
        obtain ⟨cs8528, hs8533, P8534, P8535, hq8536, hr8529, hcs8530, hA8531, hlt8532, hb8537, hho8538⟩ := OS.get (sz := 1) rfl (by decide) (h5.le hle8481) hx8527
        obtain ⟨rfl, rfl⟩ := hr8529
        refine E_s0 3 rfl (st_index_old j8525 rfl rfl hj8526 hlt8532 hA8531 sl22) ?_
        refine E_st 4 rfl (st_load_rd rfl one3 (fun w ho => hcs8530 w _ ho (.cons _ (.cons _ (.cons _ (.cons _ (List.sublist_append_left _ _))))) 0 _ rfl)) ?_
        refine E_s0 5 rfl (st_move rfl) ?_
        refine E_s0 6 rfl (st_move rfl) ?_
        obtain ⟨j8541, hj8542, hx8543⟩ := idx_some h8540
        obtain ⟨cs8544, hs8549, P8550, P8551, hq8552, hr8545, hcs8546, hA8547, hlt8548, hb8553, hho8554⟩ := OS.get (sz := 1) rfl (by decide) (h5.le hle8481) hx8543
        obtain ⟨rfl, rfl⟩ := hr8545
        refine E_s0 7 rfl (st_index_old j8541 rfl rfl hj8542 hlt8548 hA8547 sl22) ?_
        refine E_st 8 rfl (st_load_rd rfl one3 (fun w ho => hcs8546 w _ ho (.cons _ (.cons _ (.cons _ (.cons _ (List.sublist_append_left _ _))))) 0 _ rfl)) ?_
        refine E_out ?_
        refine d_pullb 3 rfl ?_
        refine d_pullb 3 rfl ?_
        refine d_pullb 3 rfl ?_
        refine d_pullb 3 rfl ?_
        refine d_front3 [_, _, _, _] hs2 hs7 hs12 R rfl ?_
        refine d_front3 [_, _, _, _] hs12 hs2 hs7 R rfl ?_
        refine d_out2 [_, _, _, _] [] hs7 hs12 (hs2 ++ R) rfl ?_
        refine D_all [9] (by kernel_rfl) rfl ?_
        refine R_callvG (Base.Le.refl _) rfl rfl #[] #[.pointer (some ⟨g16, 0, none⟩), .pointer (some ⟨g17, 0, none⟩), .pointer (some ⟨g18, 0, none⟩)] [.int .i64 (x8523), .int .i64 (x8539)] rfl call36 rfl (cFareCarChoose_1 _ _ x8523 x8539 x23 x24 x25 x26 x27 l29 l31 g16 g17 g18 g19 A8 c9 hs7 A13 c14 hs12 (h10.le hle8481) hnz30 (h15.le hle8481) hnz32 x8555 hcl8556) ?_ ?_
        ·
         rintro _ b8557 _ hle8558 ⟨rfl, rfl⟩
         refine ⟨.inl (by kernel_rfl), ?_⟩
         refine d_in2 [_, _, _, _] [] hs7 hs12 (hs2 ++ R) rfl ?_
         refine E_il hle8558 ?_
         refine E_s0 10 rfl (st_lss rfl rfl) ?_
         refine E_s0 11 rfl (st_not rfl) ?_
         refine E_out ?_
         refine D_done (by kernel_rfl) ?_
         refine x_then_normal ?_
         refine c_cond _ rfl (fun hc8559 => ?_) (fun hc8559 => ?_)
         ·
          rw [if_neg (of_decide_eq_false (notT hc8559))] at hm
          refine c_region ?_
          refine t_mv rfl rfl ?_
          obtain ⟨_, h8560, hm⟩ := bindS hm
          have h8560 := (chk_some h8560).2
          refine t_st rfl (st_add rfl rfl h8560) ?_
          refine t_as rfl rfl ?_
          refine t_nil ?_
          refine x_block_normal ?_
          refine x_pullb 3 rfl ?_
          refine x_pullb 3 rfl ?_
          refine x_pullb 3 rfl ?_
          refine x_pullb 3 rfl ?_
          refine x_front2 [_, _, _, _] hs7 hs12 (hs2 ++ R) rfl ?_
          refine x_front2 [_, _, _, _] hs12 hs7 (hs2 ++ R) rfl ?_
          refine x_front3 [_, _, _, _] hs7 hs12 hs2 R rfl ?_
          exact x_againM ((IntKind.wrap .i64 (shrI .u64 (IntKind.wrap .u64 (x8482 + x8483)) 1)) + 1, x8483) (Option.some.inj hm).symm (e' := [(0, .slice A3 (l28).length c4), (2, .int .i64 (x21)), (4, .func (.func 36) #[] #[.pointer (some ⟨g16, 0, none⟩), .pointer (some ⟨g17, 0, none⟩), .pointer (some ⟨g18, 0, none⟩)]), (14, .int .i64 ((IntKind.wrap .i64 (shrI .u64 (IntKind.wrap .u64 (x8482 + x8483)) 1)) + 1)), (15, .int .i64 (x8483))]) ⟨rfl, rfl, rfl, rfl, rfl, trivial⟩ (.refl _) ⟨rfl, rfl, ((hle8481.trans hle8558))⟩
         ·
          rw [if_pos (of_decide_eq_true (notF hc8559))] at hm
          refine c_region ?_
          refine t_mv rfl rfl ?_
          refine t_as rfl rfl ?_
          refine t_nil ?_
          refine x_block_normal ?_
          refine x_pullb 3 rfl ?_
          refine x_pullb 3 rfl ?_
          refine x_pullb 3 rfl ?_
          refine x_pullb 3 rfl ?_
          refine x_front2 [_, _, _, _] hs7 hs12 (hs2 ++ R) rfl ?_
          refine x_front2 [_, _, _, _] hs12 hs7 (hs2 ++ R) rfl ?_
          refine x_front3 [_, _, _, _] hs7 hs12 hs2 R rfl ?_
          exact x_againM (x8482, IntKind.wrap .i64 (shrI .u64 (IntKind.wrap .u64 (x8482 + x8483)) 1)) (Option.some.inj hm).symm (e' := [(0, .slice A3 (l28).length c4), (2, .int .i64 (x21)), (4, .func (.func 36) #[] #[.pointer (some ⟨g16, 0, none⟩), .pointer (some ⟨g17, 0, none⟩), .pointer (some ⟨g18, 0, none⟩)]), (14, .int .i64 (x8482)), (15, .int .i64 (IntKind.wrap .i64 (shrI .u64 (IntKind.wrap .u64 (x8482 + x8483)) 1)))]) ⟨rfl, rfl, rfl, rfl, rfl, trivial⟩ (.refl _) ⟨rfl, rfl, ((hle8481.trans hle8558))⟩
        exact R_nil
       ·
        rw [if_neg (of_decide_eq_false hc8484)] at hm
        refine c_exit ?_
        refine x_then_exit ?_
        refine x_then_exit ?_
        refine x_block_out ?_
        have hm := congrArg some (houtL8323 _ (Option.some.inj hm).symm)
        obtain rfl := some1 hm
        refine x_pullb 3 rfl ?_
        refine x_pullb 3 rfl ?_
        refine x_pullb 3 rfl ?_
        refine x_pullb 3 rfl ?_
        refine x_front3 [_, _, _, _] hs2 hs7 hs12 R rfl ?_
        refine x_front3 [_, _, _, _] hs12 hs2 hs7 R rfl ?_
        refine x_front3 [_, _, _, _] hs7 hs12 hs2 R rfl ?_
        exact x_join (e' := [(0, .slice A3 (l28).length c4), (2, .int .i64 (x21)), (14, .int .i64 (x8482))]) ⟨rfl, rfl, rfl, trivial⟩ (.refl _) ⟨rfl, rfl, hle8481⟩
      ·
       rintro b8319 _ _ ⟨rfl, rfl, hle8320⟩
       have hm := hk8322
       obtain ⟨l9007, hj9009, hk9009⟩ := bindS hm
       refine c_join (fun b9002 e' hp' => ∃ (hs9005 : Hp), [] = e' ∧ (g16, Cl 24 [.pointer (some ⟨g19, 0, none⟩)]) :: (g17, Cl 3 [.int .i64 (x23)]) :: (g18, Cl 3 [.int .i64 (x24)]) :: (g19, Cl 54 [.int .i64 (x25), .int .i64 (x26), .int .i64 (x27), .slice A8 (l29).length c9, .slice A13 (l31).length c14]) :: (hs9005 ++ (hs7 ++ (hs12 ++ R))) = hp' ∧ b8319.Le b9002 ∧ OS 3 (OT.fr (RT.int .i64)) b9002.w (.slice A3 l9007.length c4) l9007 hs9005 ∧ l9007.length = l28.length) ?_ ?_
       ·
        have hm := hj9009
        refine c_sr ?_
        refine t_mv rfl rfl ?_
        refine t_as rfl rfl ?_
        refine t_ne ?_
        refine c_block ?_
        refine c_pullb 3 rfl ?_
        refine c_pullb 3 rfl ?_
        refine c_pullb 3 rfl ?_
        refine c_pullb 3 rfl ?_
        refine c_front3 [_, _, _, _] hs2 hs7 hs12 R rfl ?_
        refine c_front3 [_, _, _, _] hs12 hs2 hs7 R rfl ?_
        refine c_front3 [_, _, _, _] hs7 hs12 hs2 R rfl ?_
        refine c_loopM (unc2 fun x9306 l9307 => fun b9301 e' hp' => ∃ (hs9304 : Hp), [(0, .slice A3 (l9307).length c4), (14, .int .i64 (x8321)), (17, .int .i64 (x9306))] = e' ∧ (g16, Cl 24 [.pointer (some ⟨g19, 0, none⟩)]) :: (g17, Cl 3 [.int .i64 (x23)]) :: (g18, Cl 3 [.int .i64 (x24)]) :: (g19, Cl 54 [.int .i64 (x25), .int .i64 (x26), .int .i64 (x27), .slice A8 (l29).length c9, .slice A13 (l31).length c14]) :: (hs9304 ++ (hs7 ++ (hs12 ++ R))) = hp' ∧ b8319.Le b9301 ∧ OS 3 (OT.fr (RT.int .i64)) b9301.w (.slice A3 l9307.length c4) l9307 hs9304 ∧ l9307.length = l28.length) hm (e' := [(0, .slice A3 (l28).length c4), (14, .int .i64 (x8321)), (17, .int .i64 (x21))]) ⟨rfl, rfl, rfl, trivial⟩ (.refl _) ⟨hs2, rfl, rfl, (Base.Le.refl _), (h5.le hle8320), rfl⟩ ?_
        rintro ⟨x9306, l9307⟩ b9301 _ _ oL9010 ⟨hs9304, rfl, rfl, hle9302, h9305, hln9308⟩ hstepL9010 houtL9010
        unfold mSlicesSymMergeCmpFunc_L9010 at hstepL9010
        have hm := (unc2E hstepL9010)
        refine c_seq ?_
        refine c_sr ?_
        refine t_mv rfl rfl ?_
        refine t_mv rfl rfl ?_
        refine t_st rfl (st_gtr rfl rfl) ?_
        refine t_ne ?_
        refine c_cond _ rfl (fun hc9309 => ?_) (fun hc9309 => ?_)
        ·
         rw [if_pos (of_decide_eq_true hc9309)] at hm
         refine c_skip ?_
         refine x_then_normal ?_
         refine c_seq ?_
         refine c_block ?_
         obtain ⟨_, h9380, hm⟩ := bindS hm
         obtain ⟨_, h9381, hm⟩ := bindS hm
         obtain ⟨x9382, h9383, hm⟩ := bindS hm
         obtain ⟨x9398, h9399, hm⟩ := bindS hm
         obtain ⟨x9414, h9415, hm⟩ := bindS hm
         obtain ⟨x9432, h9433, hm⟩ := bindS hm
         refine D_drawI mixed (.refl _) ?_
         refine E_s0 0 rfl (st_move rfl) ?_
         refine E_s0 1 rfl (st_move rfl) ?_
         refine E_s0 2 rfl (st_move rfl) ?_
         refine E_s0 3 rfl (st_move rfl) ?_
         have h9380 := (chk_some h9380).2
         refine E_s0 4 rfl (st_sub rfl rfl h9380) ?_
         refine E_s0 5 rfl (st_move rfl) ?_
         refine E_s0 6 rfl (st_move rfl) ?_
         have h9381 := (chk_some h9381).2
         refine E_s0 7 rfl (st_sub rfl rfl h9381) ?_
         obtain ⟨j9384, hj9385, hx9386⟩ := idx_some h9383
         obtain ⟨cs9387, hs9392, P9393, P9394, hq9395, hr9388, hcs9389, hA9390, hlt9391, hb9396, hho9397⟩ := OS.get (sz := 1) rfl (by decide) h9305 hx9386
         obtain ⟨rfl, rfl⟩ := hr9388
         refine E_s0 8 rfl (st_index_old j9384 rfl rfl hj9385 hlt9391 hA9390 sl22) ?_
         refine E_st 9 rfl (st_load_rd rfl one3 (fun w ho => hcs9389 w _ ho (.cons _ (.cons _ (.cons _ (.cons _ (List.sublist_append_left _ _))))) 0 _ rfl)) ?_
         refine E_s0 10 rfl (st_move rfl) ?_
         refine E_s0 11 rfl (st_move rfl) ?_
         obtain ⟨j9400, hj9401, hx9402⟩ := idx_some h9399
         obtain ⟨cs9403, hs9408, P9409, P9410, hq9411, hr9404, hcs9405, hA9406, hlt9407, hb9412, hho9413⟩ := OS.get (sz := 1) rfl (by decide) h9305 hx9402
         obtain ⟨rfl, rfl⟩ := hr9404
         refine E_s0 12 rfl (st_index_old j9400 rfl rfl hj9401 hlt9407 hA9406 sl22) ?_
         refine E_st 13 rfl (st_load_rd rfl one3 (fun w ho => hcs9405 w _ ho (.cons _ (.cons _ (.cons _ (.cons _ (List.sublist_append_left _ _))))) 0 _ rfl)) ?_
         obtain ⟨j9416, hj9417, hx9418⟩ := idx_some h9415
         obtain ⟨cs9419, hs9424, P9425, P9426, hq9427, hr9420, hcs9421, hA9422, hlt9423, hb9428, hho9429⟩ := OS.get (sz := 1) rfl (by decide) h9305 hx9418
         obtain ⟨rfl, rfl⟩ := hr9420
         refine E_s0 14 rfl (st_index_old j9416 rfl rfl hj9417 hlt9423 hA9422 sl22) ?_
         refine E_out ?_
         refine D_all [15] (by kernel_rfl) rfl ?_
         refine R_do (Base.Le.refl _) rfl rfl (u_putOS hj9417 (sz := 1) (a' := x9382) rfl [_, _, _, _] (hs7 ++ (hs12 ++ R)) 0 1 [.int .i64 (x9382)] rfl h9305 hx9418 rfl rfl rfl siz3 rfl (mem_c rfl mem_n) (fun cs hsj hh => by obtain ⟨rfl, rfl⟩ := hh; exact ⟨by decide, rfl, rfl⟩)) ?_ ?_
         ·
          rintro _ _ ⟨hs9430, rfl, h9431⟩
          refine ⟨.inl (by kernel_rfl), ?_⟩
          refine d_resp 0 rfl (v' := .slice A3 (put l9307 x9306 x9382).length c4) (by simp only [put_length]) ?_
          refine d_resp 115 rfl (v' := .slice A3 (put l9307 x9306 x9382).length c4) (by simp only [put_length]) ?_
          obtain ⟨j9434, hj9435, hx9436⟩ := idx_some h9433
          obtain ⟨cs9437, hs9442, P9443, P9444, hq9445, hr9438, hcs9439, hA9440, hlt9441, hb9446, hho9447⟩ := OS.get (sz := 1) rfl (by decide) h9431 hx9436
          obtain ⟨rfl, rfl⟩ := hr9438
          refine E_il (Base.Le.refl _) ?_
          refine E_s0 16 rfl (st_index_old j9434 rfl rfl hj9435 hlt9441 hA9440 sl22) ?_
          refine E_out ?_
          refine D_all [17] (by kernel_rfl) rfl ?_
          refine R_do (Base.Le.refl _) rfl rfl (u_putOS hj9435 (sz := 1) (a' := x9398) rfl [_, _, _, _] (hs7 ++ (hs12 ++ R)) 0 1 [.int .i64 (x9398)] rfl h9431 hx9436 rfl rfl rfl siz3 rfl (mem_c rfl mem_n) (fun cs hsj hh => by obtain ⟨rfl, rfl⟩ := hh; exact ⟨by decide, rfl, rfl⟩)) ?_ ?_
          ·
           rintro _ _ ⟨hs9448, rfl, h9449⟩
           refine ⟨.inl (by kernel_rfl), ?_⟩
           refine d_resp 0 rfl (v' := .slice A3 (put (put l9307 x9306 x9382) (x9306 - 1) x9398).length c4) (by simp only [put_length]) ?_
           refine D_done (by kernel_rfl) ?_
           refine x_block_normal ?_
           refine x_then_normal ?_
           refine c_region ?_
           refine t_mv rfl rfl ?_
           obtain ⟨_, h9450, hm⟩ := bindS hm
           have h9450 := (chk_some h9450).2
           refine t_st rfl (st_sub rfl rfl h9450) ?_
           refine t_as rfl rfl ?_
           refine t_nil ?_
           refine x_pullb 3 rfl ?_
           refine x_pullb 3 rfl ?_
           refine x_pullb 3 rfl ?_
           refine x_pullb 3 rfl ?_
           refine x_front3 [_, _, _, _] hs9448 hs7 hs12 R rfl ?_
           refine x_front3 [_, _, _, _] hs12 hs9448 hs7 R rfl ?_
           refine x_front3 [_, _, _, _] hs7 hs12 hs9448 R rfl ?_
           exact x_againM (x9306 - 1, put (put l9307 x9306 x9382) (x9306 - 1) x9398) (Option.some.inj hm).symm (e' := [(0, .slice A3 (put (put l9307 x9306 x9382) (x9306 - 1) x9398).length c4), (14, .int .i64 (x8321)), (17, .int .i64 (x9306 - 1))]) ⟨rfl, rfl, rfl, trivial⟩ (.refl _) ⟨hs9448, rfl, rfl, (hle9302), h9449, ((put_length _ _ _).trans ((put_length _ _ _).trans hln9308))⟩
          exact R_nil
         exact R_nil
        ·
         rw [if_neg (of_decide_eq_false hc9309)] at hm
         refine c_exit ?_
         refine x_then_exit ?_
         refine x_then_exit ?_
         refine x_block_out ?_
         have hm := congrArg some (houtL9010 _ (Option.some.inj hm).symm)
         obtain rfl := some1 hm
         refine x_pullb 3 rfl ?_
         refine x_pullb 3 rfl ?_
         refine x_pullb 3 rfl ?_
         refine x_pullb 3 rfl ?_
         refine x_front3 [_, _, _, _] hs9304 hs7 hs12 R rfl ?_
         refine x_front3 [_, _, _, _] hs12 hs9304 hs7 R rfl ?_
         refine x_front3 [_, _, _, _] hs7 hs12 hs9304 R rfl ?_
         exact x_join (e' := []) trivial (.refl _) ⟨hs9304, rfl, rfl, hle9302, h9305, hln9308⟩
       ·
        rintro b9002 _ _ ⟨hs9005, rfl, rfl, hle9003, h9006, hln9008⟩
        have hm := hk9009
        refine c_ret ?_
        refine x_then_ret ?_
        obtain rfl := some1 hm
        refine x_pullb 3 rfl ?_
        refine x_pullb 3 rfl ?_
        refine x_pullb 3 rfl ?_
        refine x_pullb 3 rfl ?_
        refine x_front3 [_, _, _, _] hs9005 hs7 hs12 R rfl ?_
        refine x_front3 [_, _, _, _] hs12 hs9005 hs7 R rfl ?_
        refine x_front3 [_, _, _, _] hs7 hs12 hs9005 R rfl ?_
        exact retM (rs := []) [] (hle8320.trans hle9003) (by decide) rfl trivial rfl (.refl _) ⟨hs9005, rfl, rfl, h9006, hln9008⟩
     ·
      rw [if_neg (of_decide_eq_false hc8080)] at hm
      refine c_skip ?_
      refine x_then_normal ?_
      refine c_sr ?_
      refine t_mv rfl rfl ?_
      refine t_mv rfl rfl ?_
      obtain ⟨_, h9451, hm⟩ := bindS hm
      have h9451 := (chk_some h9451).2
      refine t_st rfl (st_add rfl rfl h9451) ?_
      refine t_st rfl (st_conv rfl int3_i64 int110_u64) ?_
      obtain ⟨_, h9452, hm⟩ := bindS hm
      have h9452 := shN_some h9452
      refine t_st rfl (st_shr rfl rfl h9452) ?_
      refine t_st rfl (st_conv rfl int110_u64 int3_i64) ?_
      refine t_as rfl rfl ?_
      refine t_ne ?_
      refine c_sr ?_
      refine t_mv rfl rfl ?_
      refine t_mv rfl rfl ?_
      obtain ⟨_, h9453, hm⟩ := bindS hm
      have h9453 := (chk_some h9453).2
      refine t_st rfl (st_add rfl rfl h9453) ?_
      refine t_as rfl rfl ?_
      refine t_ne ?_
      refine c_sr ?_
      refine t_as rfl rfl ?_
      refine t_as rfl rfl ?_
      refine t_ne ?_
      obtain ⟨⟨x9458, x9459⟩, hj9460, hk9460⟩ := bindS hm
      refine c_join (fun b9456 e' hp' => [(0, .slice A3 (l28).length c4), (1, .int .i64 (x20)), (2, .int .i64 (x21)), (3, .int .i64 (x22)), (4, .func (.func 36) #[] #[.pointer (some ⟨g16, 0, none⟩), .pointer (some ⟨g17, 0, none⟩), .pointer (some ⟨g18, 0, none⟩)]), (18, .int .i64 (IntKind.wrap .i64 (shrI .u64 (IntKind.wrap .u64 (x20 + x22)) 1))), (19, .int .i64 ((IntKind.wrap .i64 (shrI .u64 (IntKind.wrap .u64 (x20 + x22)) 1)) + x21)), (20, .int .i64 (x9458)), (21, .int .i64 (x9459))] = e' ∧ (g16, Cl 24 [.pointer (some ⟨g19, 0, none⟩)]) :: (g17, Cl 3 [.int .i64 (x23)]) :: (g18, Cl 3 [.int .i64 (x24)]) :: (g19, Cl 54 [.int .i64 (x25), .int .i64 (x26), .int .i64 (x27), .slice A8 (l29).length c9, .slice A13 (l31).length c14]) :: (hs2 ++ (hs7 ++ (hs12 ++ R))) = hp' ∧ b.Le b9456) ?_ ?_
      ·
       have hm := hj9460
       refine c_sr ?_
       refine t_mv rfl rfl ?_
       refine t_mv rfl rfl ?_
       refine t_st rfl (st_gtr rfl rfl) ?_
       refine t_ne ?_
       refine c_cond _ rfl (fun hc9461 => ?_) (fun hc9461 => ?_)
       ·
        rw [if_pos (of_decide_eq_true hc9461)] at hm
        refine c_sr ?_
        refine t_mv rfl rfl ?_
        refine t_mv rfl rfl ?_
        obtain ⟨_, h9462, hm⟩ := bindS hm
        have h9462 := (chk_some h9462).2
        refine t_st rfl (st_sub rfl rfl h9462) ?_
        refine t_as rfl rfl ?_
        refine t_ne ?_
        refine c_region ?_
        refine t_mv rfl rfl ?_
        refine t_as rfl rfl ?_
        refine t_nil ?_
        obtain ⟨rfl, rfl⟩ := some2 hm
        refine x_pullb 3 rfl ?_
        refine x_pullb 3 rfl ?_
        refine x_pullb 3 rfl ?_
        refine x_pullb 3 rfl ?_
        refine x_front3 [_, _, _, _] hs2 hs7 hs12 R rfl ?_
        refine x_front3 [_, _, _, _] hs12 hs2 hs7 R rfl ?_
        refine x_front3 [_, _, _, _] hs7 hs12 hs2 R rfl ?_
        exact x_join (e' := [(0, .slice A3 (l28).length c4), (1, .int .i64 (x20)), (2, .int .i64 (x21)), (3, .int .i64 (x22)), (4, .func (.func 36) #[] #[.pointer (some ⟨g16, 0, none⟩), .pointer (some ⟨g17, 0, none⟩), .pointer (some ⟨g18, 0, none⟩)]), (18, .int .i64 (IntKind.wrap .i64 (shrI .u64 (IntKind.wrap .u64 (x20 + x22)) 1))), (19, .int .i64 ((IntKind.wrap .i64 (shrI .u64 (IntKind.wrap .u64 (x20 + x22)) 1)) + x21)), (20, .int .i64 (((IntKind.wrap .i64 (shrI .u64 (IntKind.wrap .u64 (x20 + x22)) 1)) + x21) - x22)), (21, .int .i64 (IntKind.wrap .i64 (shrI .u64 (IntKind.wrap .u64 (x20 + x22)) 1)))]) ⟨rfl, rfl, rfl, rfl, rfl, rfl, rfl, rfl, rfl, trivial⟩ (.refl _) ⟨rfl, rfl, (Base.Le.refl _)⟩
       ·
        rw [if_neg (of_decide_eq_false hc9461)] at hm
        refine c_sr ?_
        refine t_mv rfl rfl ?_
        refine t_as rfl rfl ?_
        refine t_ne ?_
        refine c_region ?_
        refine t_mv rfl rfl ?_
        refine t_as rfl rfl ?_
        refine t_nil ?_
        obtain ⟨rfl, rfl⟩ := some2 hm
        refine x_pullb 3 rfl ?_
        refine x_pullb 3 rfl ?_
        refine x_pullb 3 rfl ?_
        refine x_pullb 3 rfl ?_
        refine x_front3 [_, _, _, _] hs2 hs7 hs12 R rfl ?_
        refine x_front3 [_, _, _, _] hs12 hs2 hs7 R rfl ?_
        refine x_front3 [_, _, _, _] hs7 hs12 hs2 R rfl ?_
        exact x_join (e' := [(0, .slice A3 (l28).length c4), (1, .int .i64 (x20)), (2, .int .i64 (x21)), (3, .int .i64 (x22)), (4, .func (.func 36) #[] #[.pointer (some ⟨g16, 0, none⟩), .pointer (some ⟨g17, 0, none⟩), .pointer (some ⟨g18, 0, none⟩)]), (18, .int .i64 (IntKind.wrap .i64 (shrI .u64 (IntKind.wrap .u64 (x20 + x22)) 1))), (19, .int .i64 ((IntKind.wrap .i64 (shrI .u64 (IntKind.wrap .u64 (x20 + x22)) 1)) + x21)), (20, .int .i64 (x20)), (21, .int .i64 (x21))]) ⟨rfl, rfl, rfl, rfl, rfl, rfl, rfl, rfl, rfl, trivial⟩ (.refl _) ⟨rfl, rfl, (Base.Le.refl _)⟩
      ·
       rintro b9456 _ _ ⟨rfl, rfl, hle9457⟩
       have hm := (unc2E hk9460)
       refine c_sr ?_
       refine t_mv rfl rfl ?_
       obtain ⟨_, h9463, hm⟩ := bindS hm
       have h9463 := (chk_some h9463).2
       refine t_st rfl (st_sub rfl rfl h9463) ?_
       refine t_as rfl rfl ?_
       refine t_ne ?_
       obtain ⟨x9710, hj9711, hk9711⟩ := bindS hm
       refine c_join (fun b9708 e' hp' => [(0, .slice A3 (l28).length c4), (1, .int .i64 (x20)), (2, .int .i64 (x21)), (3, .int .i64 (x22)), (4, .func (.func 36) #[] #[.pointer (some ⟨g16, 0, none⟩), .pointer (some ⟨g17, 0, none⟩), .pointer (some ⟨g18, 0, none⟩)]), (18, .int .i64 (IntKind.wrap .i64 (shrI .u64 (IntKind.wrap .u64 (x20 + x22)) 1))), (19, .int .i64 ((IntKind.wrap .i64 (shrI .u64 (IntKind.wrap .u64 (x20 + x22)) 1)) + x21)), (20, .int .i64 (x9710))] = e' ∧ (g16, Cl 24 [.pointer (some ⟨g19, 0, none⟩)]) :: (g17, Cl 3 [.int .i64 (x23)]) :: (g18, Cl 3 [.int .i64 (x24)]) :: (g19, Cl 54 [.int .i64 (x25), .int .i64 (x26), .int .i64 (x27), .slice A8 (l29).length c9, .slice A13 (l31).length c14]) :: (hs2 ++ (hs7 ++ (hs12 ++ R))) = hp' ∧ b9456.Le b9708) ?_ ?_
       ·
        have hm := hj9711
        refine c_block ?_
        refine c_pullb 3 rfl ?_
        refine c_pullb 3 rfl ?_
        refine c_pullb 3 rfl ?_
        refine c_pullb 3 rfl ?_
        refine c_front3 [_, _, _, _] hs2 hs7 hs12 R rfl ?_
        refine c_front3 [_, _, _, _] hs12 hs2 hs7 R rfl ?_
        refine c_front3 [_, _, _, _] hs7 hs12 hs2 R rfl ?_
        refine c_loopM (unc2 fun x9875 x9876 => fun b9873 e' hp' => [(0, .slice A3 (l28).length c4), (1, .int .i64 (x20)), (2, .int .i64 (x21)), (3, .int .i64 (x22)), (4, .func (.func 36) #[] #[.pointer (some ⟨g16, 0, none⟩), .pointer (some ⟨g17, 0, none⟩), .pointer (some ⟨g18, 0, none⟩)]), (18, .int .i64 (IntKind.wrap .i64 (shrI .u64 (IntKind.wrap .u64 (x20 + x22)) 1))), (19, .int .i64 ((IntKind.wrap .i64 (shrI .u64 (IntKind.wrap .u64 (x20 + x22)) 1)) + x21)), (20, .int .i64 (x9875)), (21, .int .i64 (x9876)), (22, .int .i64 (((IntKind.wrap .i64 (shrI .u64 (IntKind.wrap .u64 (x20 + x22)) 1)) + x21) - 1))] = e' ∧ (g16, Cl 24 [.pointer (some ⟨g19, 0, none⟩)]) :: (g17, Cl 3 [.int .i64 (x23)]) :: (g18, Cl 3 [.int .i64 (x24)]) :: (g19, Cl 54 [.int .i64 (x25), .int .i64 (x26), .int .i64 (x27), .slice A8 (l29).length c9, .slice A13 (l31).length c14]) :: (hs2 ++ (hs7 ++ (hs12 ++ R))) = hp' ∧ b9456.Le b9873) hm (e' := [(0, .slice A3 (l28).length c4), (1, .int .i64 (x20)), (2, .int .i64 (x21)), (3, .int .i64 (x22)), (4, .func (.func 36) #[] #[.pointer (some ⟨g16, 0, none⟩), .pointer (some ⟨g17, 0, none⟩), .pointer (some ⟨g18, 0, none⟩)]), (18, .int .i64 (IntKind.wrap .i64 (shrI .u64 (IntKind.wrap .u64 (x20 + x22)) 1))), (19, .int .i64 ((IntKind.wrap .i64 (shrI .u64 (IntKind.wrap .u64 (x20 + x22)) 1)) + x21)), (20, .int .i64 (x9458)), (21, .int .i64 (x9459)), (22, .int .i64 (((IntKind.wrap .i64 (shrI .u64 (IntKind.wrap .u64 (x20 + x22)) 1)) + x21) - 1))]) ⟨rfl, rfl, rfl, rfl, rfl, rfl, rfl, rfl, rfl, rfl, trivial⟩ (.refl _) ⟨rfl, rfl, (Base.Le.refl _)⟩ ?_
        rintro ⟨x9875, x9876⟩ b9873 _ _ oL9712 ⟨rfl, rfl, hle9874⟩ hstepL9712 houtL9712
        unfold mSlicesSymMergeCmpFunc_L9712 at hstepL9712
        have hm := (unc2E hstepL9712)
        refine c_seq ?_
        refine c_sr ?_
        refine t_mv rfl rfl ?_
        refine t_mv rfl rfl ?_
        refine t_st rfl (st_lss rfl rfl) ?_
        refine t_ne ?_
        refine c_cond _ rfl (fun hc9877 => ?_) (fun hc9877 => ?_)
        ·
         rw [if_pos (of_decide_eq_true hc9877)] at hm
         refine c_skip ?_
         refine x_then_normal ?_
         refine c_block ?_
         refine c_sr ?_
         refine t_mv rfl rfl ?_
         refine t_mv rfl rfl ?_
         obtain ⟨_, h9878, hm⟩ := bindS hm
         have h9878 := (chk_some h9878).2
         refine t_st rfl (st_add rfl rfl h9878) ?_
         refine t_st rfl (st_conv rfl int3_i64 int110_u64) ?_
         obtain ⟨_, h9879, hm⟩ := bindS hm
         have h9879 := shN_some h9879
         refine t_st rfl (st_shr rfl rfl h9879) ?_
         refine t_st rfl (st_conv rfl int110_u64 int3_i64) ?_
         refine t_as rfl rfl ?_
         refine t_ne ?_
         refine c_seq ?_
         obtain ⟨_, h9917, hm⟩ := bindS hm
         obtain ⟨x9918, h9919, hm⟩ := bindS hm
         obtain ⟨x9934, h9935, hm⟩ := bindS hm
         obtain ⟨x9950, hcl9951, hm⟩ := bindS hm
         refine D_drawI mixed (.refl _) ?_
         refine E_s0 0 rfl (st_move rfl) ?_
         refine E_s0 1 rfl (st_move rfl) ?_
         refine E_s0 2 rfl (st_move rfl) ?_
         refine E_s0 3 rfl (st_move rfl) ?_
         have h9917 := (chk_some h9917).2
         refine E_s0 4 rfl (st_sub rfl rfl h9917) ?_
         obtain ⟨j9920, hj9921, hx9922⟩ := idx_some h9919
         obtain ⟨cs9923, hs9928, P9929, P9930, hq9931, hr9924, hcs9925, hA9926, hlt9927, hb9932, hho9933⟩ := OS.get (sz := 1) rfl (by decide) (h5.le (hle9457.trans hle9874)) hx9922
         obtain ⟨rfl, rfl⟩ := hr9924
         refine E_s0 5 rfl (st_index_old j9920 rfl rfl hj9921 hlt9927 hA9926 sl22) ?_
         refine E_st 6 rfl (st_load_rd rfl one3 (fun w ho => hcs9925 w _ ho (.cons _ (.cons _ (.cons _ (.cons _ (List.sublist_append_left _ _))))) 0 _ rfl)) ?_
         refine E_s0 7 rfl (st_move rfl) ?_
         refine E_s0 8 rfl (st_move rfl) ?_
         obtain ⟨j9936, hj9937, hx9938⟩ := idx_some h9935
         obtain ⟨cs9939, hs9944, P9945, P9946, hq9947, hr9940, hcs9941, hA9942, hlt9943, hb9948, hho9949⟩ := OS.get (sz := 1) rfl (by decide) (h5.le (hle9457.trans hle9874)) hx9938
         obtain ⟨rfl, rfl⟩ := hr9940
         refine E_s0 9 rfl (st_index_old j9936 rfl rfl hj9937 hlt9943 hA9942 sl22) ?_
         refine E_st 10 rfl (st_load_rd rfl one3 (fun w ho => hcs9941 w _ ho (.cons _ (.cons _ (.cons _ (.cons _ (List.sublist_append_left _ _))))) 0 _ rfl)) ?_
         refine E_out ?_
         refine d_pullb 3 rfl ?_
         refine d_pullb 3 rfl ?_
         refine d_pullb 3 rfl ?_
         refine d_pullb 3 rfl ?_
         refine d_front3 [_, _, _, _] hs2 hs7 hs12 R rfl ?_
         refine d_front3 [_, _, _, _] hs12 hs2 hs7 R rfl ?_
         refine d_out2 [_, _, _, _] [] hs7 hs12 (hs2 ++ R) rfl ?_
         refine D_all [11] (by kernel_rfl) rfl ?_
         refine R_callvG (Base.Le.refl _) rfl rfl #[] #[.pointer (some ⟨g16, 0, none⟩), .pointer (some ⟨g17, 0, none⟩), .pointer (some ⟨g18, 0, none⟩)] [.int .i64 (x9918), .int .i64 (x9934)] rfl call36 rfl (cFareCarChoose_1 _ _ x9918 x9934 x23 x24 x25 x26 x27 l29 l31 g16 g17 g18 g19 A8 c9 hs7 A13 c14 hs12 (h10.le (hle9457.trans hle9874)) hnz30 (h15.le (hle9457.trans hle9874)) hnz32 x9950 hcl9951) ?_ ?_
         ·
          rintro _ b9952 _ hle9953 ⟨rfl, rfl⟩
          refine ⟨.inl (by kernel_rfl), ?_⟩
          refine d_in2 [_, _, _, _] [] hs7 hs12 (hs2 ++ R) rfl ?_
          refine E_il hle9953 ?_
          refine E_s0 12 rfl (st_lss rfl rfl) ?_
          refine E_s0 13 rfl (st_not rfl) ?_
          refine E_out ?_
          refine D_done (by kernel_rfl) ?_
          refine x_then_normal ?_
          refine c_cond _ rfl (fun hc9954 => ?_) (fun hc9954 => ?_)
          ·
           rw [if_neg (of_decide_eq_false (notT hc9954))] at hm
           refine c_region ?_
           refine t_mv rfl rfl ?_
           obtain ⟨_, h9955, hm⟩ := bindS hm
           have h9955 := (chk_some h9955).2
           refine t_st rfl (st_add rfl rfl h9955) ?_
           refine t_as rfl rfl ?_
           refine t_nil ?_
           refine x_block_normal ?_
           refine x_pullb 3 rfl ?_
           refine x_pullb 3 rfl ?_
           refine x_pullb 3 rfl ?_
           refine x_pullb 3 rfl ?_
           refine x_front2 [_, _, _, _] hs7 hs12 (hs2 ++ R) rfl ?_
           refine x_front2 [_, _, _, _] hs12 hs7 (hs2 ++ R) rfl ?_
           refine x_front3 [_, _, _, _] hs7 hs12 hs2 R rfl ?_
           exact x_againM ((IntKind.wrap .i64 (shrI .u64 (IntKind.wrap .u64 (x9875 + x9876)) 1)) + 1, x9876) (Option.some.inj hm).symm (e' := [(0, .slice A3 (l28).length c4), (1, .int .i64 (x20)), (2, .int .i64 (x21)), (3, .int .i64 (x22)), (4, .func (.func 36) #[] #[.pointer (some ⟨g16, 0, none⟩), .pointer (some ⟨g17, 0, none⟩), .pointer (some ⟨g18, 0, none⟩)]), (18, .int .i64 (IntKind.wrap .i64 (shrI .u64 (IntKind.wrap .u64 (x20 + x22)) 1))), (19, .int .i64 ((IntKind.wrap .i64 (shrI .u64 (IntKind.wrap .u64 (x20 + x22)) 1)) + x21)), (20, .int .i64 ((IntKind.wrap .i64 (shrI .u64 (IntKind.wrap .u64 (x9875 + x9876)) 1)) + 1)), (21, .int .i64 (x9876)), (22, .int .i64 (((IntKind.wrap .i64 (shrI .u64 (IntKind.wrap .u64 (x20 + x22)) 1)) + x21) - 1))]) ⟨rfl, rfl, rfl, rfl, rfl, rfl, rfl, rfl, rfl, rfl, trivial⟩ (.refl _) ⟨rfl, rfl, ((hle9874.trans hle9953))⟩
          ·
           rw [if_pos (of_decide_eq_true (notF hc9954))] at hm
           refine c_region ?_
           refine t_mv rfl rfl ?_
           refine t_as rfl rfl ?_
           refine t_nil ?_
           refine x_block_normal ?_
           refine x_pullb 3 rfl ?_
           refine x_pullb 3 rfl ?_
           refine x_pullb 3 rfl ?_
           refine x_pullb 3 rfl ?_
           refine x_front2 [_, _, _, _] hs7 hs12 (hs2 ++ R) rfl ?_
           refine x_front2 [_, _, _, _] hs12 hs7 (hs2 ++ R) rfl ?_
           refine x_front3 [_, _, _, _] hs7 hs12 hs2 R rfl ?_
           exact x_againM (x9875, IntKind.wrap .i64 (shrI .u64 (IntKind.wrap .u64 (x9875 + x9876)) 1)) (Option.some.inj hm).symm (e' := [(0, .slice A3 (l28).length c4), (1, .int .i64 (x20)), (2, .int .i64 (x21)), (3, .int .i64 (x22)), (4, .func (.func 36) #[] #[.pointer (some ⟨g16, 0, none⟩), .pointer (some ⟨g17, 0, none⟩), .pointer (some ⟨g18, 0, none⟩)]), (18, .int .i64 (IntKind.wrap .i64 (shrI .u64 (IntKind.wrap .u64 (x20 + x22)) 1))), (19, .int .i64 ((IntKind.wrap .i64 (shrI .u64 (IntKind.wrap .u64 (x20 + x22)) 1)) + x21)), (20, .int .i64 (x9875)), (21, .int .i64 (IntKind.wrap .i64 (shrI .u64 (IntKind.wrap .u64 (x9875 + x9876)) 1))), (22, .int .i64 (((IntKind.wrap .i64 (shrI .u64 (IntKind.wrap .u64 (x20 + x22)) 1)) + x21) - 1))]) ⟨rfl, rfl, rfl, rfl, rfl, rfl, rfl, rfl, rfl, rfl, trivial⟩ (.refl _) ⟨rfl, rfl, ((hle9874.trans hle9953))⟩
         exact R_nil
        ·
         rw [if_neg (of_decide_eq_false hc9877)] at hm
         refine c_exit ?_
         refine x_then_exit ?_
         refine x_then_exit ?_
         refine x_block_out ?_
         have hm := congrArg some (houtL9712 _ (Option.some.inj hm).symm)
         obtain rfl := some1 hm
         refine x_pullb 3 rfl ?_
         refine x_pullb 3 rfl ?_
         refine x_pullb 3 rfl ?_
         refine x_pullb 3 rfl ?_
         refine x_front3 [_, _, _, _] hs2 hs7 hs12 R rfl ?_
         refine x_front3 [_, _, _, _] hs12 hs2 hs7 R rfl ?_
         refine x_front3 [_, _, _, _] hs7 hs12 hs2 R rfl ?_
         exact x_join (e' := [(0, .slice A3 (l28).length c4), (1, .int .i64 (x20)), (2, .int .i64 (x21)), (3, .int .i64 (x22)), (4, .func (.func 36) #[] #[.pointer (some ⟨g16, 0, none⟩), .pointer (some ⟨g17, 0, none⟩), .pointer (some ⟨g18, 0, none⟩)]), (18, .int .i64 (IntKind.wrap .i64 (shrI .u64 (IntKind.wrap .u64 (x20 + x22)) 1))), (19, .int .i64 ((IntKind.wrap .i64 (shrI .u64 (IntKind.wrap .u64 (x20 + x22)) 1)) + x21)), (20, .int .i64 (x9875))]) ⟨rfl, rfl, rfl, rfl, rfl, rfl, rfl, rfl, trivial⟩ (.refl _) ⟨rfl, rfl, hle9874⟩
       ·
        rintro b9708 _ _ ⟨rfl, rfl, hle9709⟩
        have hm := hk9711
        refine c_sr ?_
        refine t_mv rfl rfl ?_
        refine t_mv rfl rfl ?_
        obtain ⟨_, h9956, hm⟩ := bindS hm
        have h9956 := (chk_some h9956).2
        refine t_st rfl (st_sub rfl rfl h9956) ?_
        refine t_as rfl rfl ?_
        refine t_ne ?_
        obtain ⟨l9976, hj9978, hk9978⟩ := bindS hm
        refine c_join (fun b9971 e' hp' => ∃ (hs9974 : Hp), [(0, .slice A3 (l9976).length c4), (1, .int .i64 (x20)), (3, .int .i64 (x22)), (4, .func (.func 36) #[] #[.pointer (some ⟨g16, 0, none⟩), .pointer (some ⟨g17, 0, none⟩), .pointer (some ⟨g18, 0, none⟩)]), (18, .int .i64 (IntKind.wrap .i64 (shrI .u64 (IntKind.wrap .u64 (x20 + x22)) 1))), (20, .int .i64 (x9710)), (24, .int .i64 (((IntKind.wrap .i64 (shrI .u64 (IntKind.wrap .u64 (x20 + x22)) 1)) + x21) - x9710))] = e' ∧ (g16, Cl 24 [.pointer (some ⟨g19, 0, none⟩)]) :: (g17, Cl 3 [.int .i64 (x23)]) :: (g18, Cl 3 [.int .i64 (x24)]) :: (g19, Cl 54 [.int .i64 (x25), .int .i64 (x26), .int .i64 (x27), .slice A8 (l29).length c9, .slice A13 (l31).length c14]) :: (hs9974 ++ (hs7 ++ (hs12 ++ R))) = hp' ∧ b9708.Le b9971 ∧ OS 3 (OT.fr (RT.int .i64)) b9971.w (.slice A3 l9976.length c4) l9976 hs9974 ∧ l9976.length = l28.length) ?_ ?_
        ·
         have hm := hj9978
         obtain ⟨x9982, hj9983, hk9983⟩ := bindS hm
         refine c_join (fun b9980 e' hp' => [(0, .slice A3 (l28).length c4), (1, .int .i64 (x20)), (2, .int .i64 (x21)), (3, .int .i64 (x22)), (4, .func (.func 36) #[] #[.pointer (some ⟨g16, 0, none⟩), .pointer (some ⟨g17, 0, none⟩), .pointer (some ⟨g18, 0, none⟩)]), (18, .int .i64 (IntKind.wrap .i64 (shrI .u64 (IntKind.wrap .u64 (x20 + x22)) 1))), (20, .int .i64 (x9710)), (24, .int .i64 (((IntKind.wrap .i64 (shrI .u64 (IntKind.wrap .u64 (x20 + x22)) 1)) + x21) - x9710)), (185, .bool (x9982))] = e' ∧ (g16, Cl 24 [.pointer (some ⟨g19, 0, none⟩)]) :: (g17, Cl 3 [.int .i64 (x23)]) :: (g18, Cl 3 [.int .i64 (x24)]) :: (g19, Cl 54 [.int .i64 (x25), .int .i64 (x26), .int .i64 (x27), .slice A8 (l29).length c9, .slice A13 (l31).length c14]) :: (hs2 ++ (hs7 ++ (hs12 ++ R))) = hp' ∧ b9708.Le b9980) ?_ ?_
         ·
          have hm := hj9983
          refine c_region ?_
          refine t_mv rfl rfl ?_
          refine t_mv rfl rfl ?_
          refine t_bool rfl (st_lss rfl rfl) (fun hc9984 => ?_) (fun hc9984 => ?_)
          ·
           rw [if_pos hc9984] at hm
           refine t_mv rfl rfl ?_
           refine t_yes 181 rfl rfl rfl ?_
           refine t_mv rfl rfl ?_
           refine t_yes 181 rfl rfl rfl ?_
           refine t_mv rfl rfl ?_
           refine t_yes 181 rfl rfl rfl ?_
           refine t_st rfl (st_lss rfl rfl) ?_
           refine t_st rfl (st_pick_t rfl rfl) ?_
           refine t_nil ?_
           obtain rfl := some1 hm
           refine x_pullb 3 rfl ?_
           refine x_pullb 3 rfl ?_
           refine x_pullb 3 rfl ?_
           refine x_pullb 3 rfl ?_
           refine x_front3 [_, _, _, _] hs2 hs7 hs12 R rfl ?_
           refine x_front3 [_, _, _, _] hs12 hs2 hs7 R rfl ?_
           refine x_front3 [_, _, _, _] hs7 hs12 hs2 R rfl ?_
           exact x_join (e' := [(0, .slice A3 (l28).length c4), (1, .int .i64 (x20)), (2, .int .i64 (x21)), (3, .int .i64 (x22)), (4, .func (.func 36) #[] #[.pointer (some ⟨g16, 0, none⟩), .pointer (some ⟨g17, 0, none⟩), .pointer (some ⟨g18, 0, none⟩)]), (18, .int .i64 (IntKind.wrap .i64 (shrI .u64 (IntKind.wrap .u64 (x20 + x22)) 1))), (20, .int .i64 (x9710)), (24, .int .i64 (((IntKind.wrap .i64 (shrI .u64 (IntKind.wrap .u64 (x20 + x22)) 1)) + x21) - x9710)), (185, .bool (decide (x21 < (((IntKind.wrap .i64 (shrI .u64 (IntKind.wrap .u64 (x20 + x22)) 1)) + x21) - x9710))))]) ⟨rfl, rfl, rfl, rfl, rfl, rfl, rfl, rfl, rfl, trivial⟩ (.refl _) ⟨rfl, rfl, (Base.Le.refl _)⟩
          ·
           rw [if_neg hc9984] at hm
           refine t_mv rfl rfl ?_
           refine t_no 181 rfl rfl rfl rfl rfl ?_
           refine t_no 181 rfl rfl rfl rfl rfl ?_
           refine t_no 181 rfl rfl rfl rfl rfl ?_
           refine t_st rfl (st_pick_f rfl rfl) ?_
           refine t_nil ?_
           obtain rfl := some1 hm
           refine x_pullb 3 rfl ?_
           refine x_pullb 3 rfl ?_
           refine x_pullb 3 rfl ?_
           refine x_pullb 3 rfl ?_
           refine x_front3 [_, _, _, _] hs2 hs7 hs12 R rfl ?_
           refine x_front3 [_, _, _, _] hs12 hs2 hs7 R rfl ?_
           refine x_front3 [_, _, _, _] hs7 hs12 hs2 R rfl ?_
           exact x_join (e' := [(0, .slice A3 (l28).length c4), (1, .int .i64 (x20)), (2, .int .i64 (x21)), (3, .int .i64 (x22)), (4, .func (.func 36) #[] #[.pointer (some ⟨g16, 0, none⟩), .pointer (some ⟨g17, 0, none⟩), .pointer (some ⟨g18, 0, none⟩)]), (18, .int .i64 (IntKind.wrap .i64 (shrI .u64 (IntKind.wrap .u64 (x20 + x22)) 1))), (20, .int .i64 (x9710)), (24, .int .i64 (((IntKind.wrap .i64 (shrI .u64 (IntKind.wrap .u64 (x20 + x22)) 1)) + x21) - x9710)), (185, .bool (false))]) ⟨rfl, rfl, rfl, rfl, rfl, rfl, rfl, rfl, rfl, trivial⟩ (.refl _) ⟨rfl, rfl, (Base.Le.refl _)⟩
         ·
          rintro b9980 _ _ ⟨rfl, rfl, hle9981⟩
          have hm := hk9983
          refine c_cond _ rfl (fun hc9985 => ?_) (fun hc9985 => ?_)
          ·
           rw [if_pos hc9985] at hm
           refine c_region ?_
           refine t_mv rfl rfl ?_
           refine t_mv rfl rfl ?_
           refine t_mv rfl rfl ?_
           refine t_mv rfl rfl ?_
           refine t_mv rfl rfl ?_
           obtain ⟨l9986, hcl9987, hm⟩ := bindS hm
           refine t_pullb 3 rfl ?_
           refine t_pullb 3 rfl ?_
           refine t_pullb 3 rfl ?_
           refine t_pullb 3 rfl ?_
           refine t_front3 [_, _, _, _] hs2 hs7 hs12 R rfl ?_
           refine t_front3 [_, _, _, _] hs12 hs2 hs7 R rfl ?_
           refine t_front3 [_, _, _, _] hs7 hs12 hs2 R rfl ?_
           refine t_out3 [_, _, _, _] [] hs2 hs7 hs12 R rfl ?_
           refine t_callG _ rfl call87 rfl (cSlicesRotateCmpFunc _ _ x9710 x21 (((IntKind.wrap .i64 (shrI .u64 (IntKind.wrap .u64 (x20 + x22)) 1)) + x21) - x9710) x23 x24 x25 x26 x27 l28 l29 l31 g16 g17 g18 g19 A3 c4 hs2 A8 c9 hs7 A13 c14 hs12 (h5.le (hle9457.trans (hle9709.trans hle9981))) (h10.le (hle9457.trans (hle9709.trans hle9981))) hnz30 (h15.le (hle9457.trans (hle9709.trans hle9981))) hnz32 l9986 hcl9987) ?_
           rintro _ b9988 _ hle9989 ⟨hs9990, rfl, rfl, h9991, h9992⟩
           refine t_in3 [_, _, _, _] [] hs9990 hs7 hs12 R rfl ?_
           refine t_resp 0 rfl (v' := .slice A3 (l9986).length c4) (by rw [h9992]) ?_
           refine t_nil ?_
           obtain rfl := some1 hm
           refine x_pullb 3 rfl ?_
           refine x_pullb 3 rfl ?_
           refine x_pullb 3 rfl ?_
           refine x_pullb 3 rfl ?_
           refine x_front3 [_, _, _, _] hs9990 hs7 hs12 R rfl ?_
           refine x_front3 [_, _, _, _] hs12 hs9990 hs7 R rfl ?_
           refine x_front3 [_, _, _, _] hs7 hs12 hs9990 R rfl ?_
           exact x_join (e' := [(0, .slice A3 (l9986).length c4), (1, .int .i64 (x20)), (3, .int .i64 (x22)), (4, .func (.func 36) #[] #[.pointer (some ⟨g16, 0, none⟩), .pointer (some ⟨g17, 0, none⟩), .pointer (some ⟨g18, 0, none⟩)]), (18, .int .i64 (IntKind.wrap .i64 (shrI .u64 (IntKind.wrap .u64 (x20 + x22)) 1))), (20, .int .i64 (x9710)), (24, .int .i64 (((IntKind.wrap .i64 (shrI .u64 (IntKind.wrap .u64 (x20 + x22)) 1)) + x21) - x9710))]) ⟨rfl, rfl, rfl, rfl, rfl, rfl, rfl, trivial⟩ (.refl _) ⟨hs9990, rfl, rfl, (hle9981.trans hle9989), h9991, (h9992.trans rfl)⟩
          ·
           rw [if_neg (fun hh => Bool.noConfusion (hh.symm.trans hc9985))] at hm
           refine c_skip ?_
           obtain rfl := some1 hm
           refine x_pullb 3 rfl ?_
           refine x_pullb 3 rfl ?_
           refine x_pullb 3 rfl ?_
           refine x_pullb 3 rfl ?_
           refine x_front3 [_, _, _, _] hs2 hs7 hs12 R rfl ?_
           refine x_front3 [_, _, _, _] hs12 hs2 hs7 R rfl ?_
           refine x_front3 [_, _, _, _] hs7 hs12 hs2 R rfl ?_
           exact x_join (e' := [(0, .slice A3 (l28).length c4), (1, .int .i64 (x20)), (3, .int .i64 (x22)), (4, .func (.func 36) #[] #[.pointer (some ⟨g16, 0, none⟩), .pointer (some ⟨g17, 0, none⟩), .pointer (some ⟨g18, 0, none⟩)]), (18, .int .i64 (IntKind.wrap .i64 (shrI .u64 (IntKind.wrap .u64 (x20 + x22)) 1))), (20, .int .i64 (x9710)), (24, .int .i64 (((IntKind.wrap .i64 (shrI .u64 (IntKind.wrap .u64 (x20 + x22)) 1)) + x21) - x9710))]) ⟨rfl, rfl, rfl, rfl, rfl, rfl, rfl, trivial⟩ (.refl _) ⟨hs2, rfl, rfl, hle9981, (h5.le (hle9457.trans (hle9709.trans hle9981))), rfl⟩
        ·
         rintro b9971 _ _ ⟨hs9974, rfl, rfl, hle9972, h9975, hln9977⟩
         have hm := hk9978
         obtain ⟨l10012, hj10014, hk10014⟩ := bindS hm
         refine c_join (fun b10007 e' hp' => ∃ (hs10010 : Hp), [(0, .slice A3 (l10012).length c4), (3, .int .i64 (x22)), (4, .func (.func 36) #[] #[.pointer (some ⟨g16, 0, none⟩), .pointer (some ⟨g17, 0, none⟩), .pointer (some ⟨g18, 0, none⟩)]), (18, .int .i64 (IntKind.wrap .i64 (shrI .u64 (IntKind.wrap .u64 (x20 + x22)) 1))), (24, .int .i64 (((IntKind.wrap .i64 (shrI .u64 (IntKind.wrap .u64 (x20 + x22)) 1)) + x21) - x9710))] = e' ∧ (g16, Cl 24 [.pointer (some ⟨g19, 0, none⟩)]) :: (g17, Cl 3 [.int .i64 (x23)]) :: (g18, Cl 3 [.int .i64 (x24)]) :: (g19, Cl 54 [.int .i64 (x25), .int .i64 (x26), .int .i64 (x27), .slice A8 (l29).length c9, .slice A13 (l31).length c14]) :: (hs10010 ++ (hs7 ++ (hs12 ++ R))) = hp' ∧ b9971.Le b10007 ∧ OS 3 (OT.fr (RT.int .i64)) b10007.w (.slice A3 l10012.length c4) l10012 hs10010 ∧ l10012.length = l28.length) ?_ ?_
         ·
          have hm := hj10014
          obtain ⟨x10018, hj10019, hk10019⟩ := bindS hm
          refine c_join (fun b10016 e' hp' => [(0, .slice A3 (l9976).length c4), (1, .int .i64 (x20)), (3, .int .i64 (x22)), (4, .func (.func 36) #[] #[.pointer (some ⟨g16, 0, none⟩), .pointer (some ⟨g17, 0, none⟩), .pointer (some ⟨g18, 0, none⟩)]), (18, .int .i64 (IntKind.wrap .i64 (shrI .u64 (IntKind.wrap .u64 (x20 + x22)) 1))), (20, .int .i64 (x9710)), (24, .int .i64 (((IntKind.wrap .i64 (shrI .u64 (IntKind.wrap .u64 (x20 + x22)) 1)) + x21) - x9710)), (199, .bool (x10018))] = e' ∧ (g16, Cl 24 [.pointer (some ⟨g19, 0, none⟩)]) :: (g17, Cl 3 [.int .i64 (x23)]) :: (g18, Cl 3 [.int .i64 (x24)]) :: (g19, Cl 54 [.int .i64 (x25), .int .i64 (x26), .int .i64 (x27), .slice A8 (l29).length c9, .slice A13 (l31).length c14]) :: (hs9974 ++ (hs7 ++ (hs12 ++ R))) = hp' ∧ b9971.Le b10016) ?_ ?_
          ·
           have hm := hj10019
           refine c_region ?_
           refine t_mv rfl rfl ?_
           refine t_mv rfl rfl ?_
           refine t_bool rfl (st_lss rfl rfl) (fun hc10020 => ?_) (fun hc10020 => ?_)
           ·
            rw [if_pos hc10020] at hm
            refine t_mv rfl rfl ?_
            refine t_yes 195 rfl rfl rfl ?_
            refine t_mv rfl rfl ?_
            refine t_yes 195 rfl rfl rfl ?_
            refine t_mv rfl rfl ?_
            refine t_yes 195 rfl rfl rfl ?_
            refine t_st rfl (st_lss rfl rfl) ?_
            refine t_st rfl (st_pick_t rfl rfl) ?_
            refine t_nil ?_
            obtain rfl := some1 hm
            refine x_pullb 3 rfl ?_
            refine x_pullb 3 rfl ?_
            refine x_pullb 3 rfl ?_
            refine x_pullb 3 rfl ?_
            refine x_front3 [_, _, _, _] hs9974 hs7 hs12 R rfl ?_
            refine x_front3 [_, _, _, _] hs12 hs9974 hs7 R rfl ?_
            refine x_front3 [_, _, _, _] hs7 hs12 hs9974 R rfl ?_
            exact x_join (e' := [(0, .slice A3 (l9976).length c4), (1, .int .i64 (x20)), (3, .int .i64 (x22)), (4, .func (.func 36) #[] #[.pointer (some ⟨g16, 0, none⟩), .pointer (some ⟨g17, 0, none⟩), .pointer (some ⟨g18, 0, none⟩)]), (18, .int .i64 (IntKind.wrap .i64 (shrI .u64 (IntKind.wrap .u64 (x20 + x22)) 1))), (20, .int .i64 (x9710)), (24, .int .i64 (((IntKind.wrap .i64 (shrI .u64 (IntKind.wrap .u64 (x20 + x22)) 1)) + x21) - x9710)), (199, .bool (decide (x9710 < (IntKind.wrap .i64 (shrI .u64 (IntKind.wrap .u64 (x20 + x22)) 1)))))]) ⟨rfl, rfl, rfl, rfl, rfl, rfl, rfl, rfl, trivial⟩ (.refl _) ⟨rfl, rfl, (Base.Le.refl _)⟩
           ·
            rw [if_neg hc10020] at hm
            refine t_mv rfl rfl ?_
            refine t_no 195 rfl rfl rfl rfl rfl ?_
            refine t_no 195 rfl rfl rfl rfl rfl ?_
            refine t_no 195 rfl rfl rfl rfl rfl ?_
            refine t_st rfl (st_pick_f rfl rfl) ?_
            refine t_nil ?_
            obtain rfl := some1 hm
            refine x_pullb 3 rfl ?_
            refine x_pullb 3 rfl ?_
            refine x_pullb 3 rfl ?_
            refine x_pullb 3 rfl ?_
            refine x_front3 [_, _, _, _] hs9974 hs7 hs12 R rfl ?_
            refine x_front3 [_, _, _, _] hs12 hs9974 hs7 R rfl ?_
            refine x_front3 [_, _, _, _] hs7 hs12 hs9974 R rfl ?_
            exact x_join (e' := [(0, .slice A3 (l9976).length c4), (1, .int .i64 (x20)), (3, .int .i64 (x22)), (4, .func (.func 36) #[] #[.pointer (some ⟨g16, 0, none⟩), .pointer (some ⟨g17, 0, none⟩), .pointer (some ⟨g18, 0, none⟩)]), (18, .int .i64 (IntKind.wrap .i64 (shrI .u64 (IntKind.wrap .u64 (x20 + x22)) 1))), (20, .int .i64 (x9710)), (24, .int .i64 (((IntKind.wrap .i64 (shrI .u64 (IntKind.wrap .u64 (x20 + x22)) 1)) + x21) - x9710)), (199, .bool (false))]) ⟨rfl, rfl, rfl, rfl, rfl, rfl, rfl, rfl, trivial⟩ (.refl _) ⟨rfl, rfl, (Base.Le.refl _)⟩
          ·
           rintro b10016 _ _ ⟨rfl, rfl, hle10017⟩
           have hm := hk10019
           refine c_cond _ rfl (fun hc10021 => ?_) (fun hc10021 => ?_)
           ·
            rw [if_pos hc10021] at hm
            refine c_region ?_
            refine t_mv rfl rfl ?_
            refine t_mv rfl rfl ?_
            refine t_mv rfl rfl ?_
            refine t_mv rfl rfl ?_
            refine t_mv rfl rfl ?_
            obtain ⟨l10022, hcl10023, hm⟩ := bindS hm
            refine t_pullb 3 rfl ?_
            refine t_pullb 3 rfl ?_
            refine t_pullb 3 rfl ?_
            refine t_pullb 3 rfl ?_
            refine t_front3 [_, _, _, _] hs9974 hs7 hs12 R rfl ?_
            refine t_front3 [_, _, _, _] hs12 hs9974 hs7 R rfl ?_
            refine t_front3 [_, _, _, _] hs7 hs12 hs9974 R rfl ?_
            refine t_out3 [_, _, _, _] [] hs9974 hs7 hs12 R rfl ?_
            refine t_callG _ rfl call59 rfl (ih _ _ x20 x9710 (IntKind.wrap .i64 (shrI .u64 (IntKind.wrap .u64 (x20 + x22)) 1)) x23 x24 x25 x26 x27 l9976 l29 l31 g16 g17 g18 g19 A3 c4 hs9974 A8 c9 hs7 A13 c14 hs12 (h9975.le hle10017) (h10.le (hle9457.trans (hle9709.trans (hle9972.trans hle10017)))) hnz30 (h15.le (hle9457.trans (hle9709.trans (hle9972.trans hle10017)))) hnz32 l10022 hcl10023) ?_
            rintro _ b10024 _ hle10025 ⟨hs10026, rfl, rfl, h10027, h10028⟩
            refine t_in3 [_, _, _, _] [] hs10026 hs7 hs12 R rfl ?_
            refine t_resp 0 rfl (v' := .slice A3 (l10022).length c4) (by rw [h10028]) ?_
            refine t_nil ?_
            obtain rfl := some1 hm
            refine x_pullb 3 rfl ?_
            refine x_pullb 3 rfl ?_
            refine x_pullb 3 rfl ?_
            refine x_pullb 3 rfl ?_
            refine x_front3 [_, _, _, _] hs10026 hs7 hs12 R rfl ?_
            refine x_front3 [_, _, _, _] hs12 hs10026 hs7 R rfl ?_
            refine x_front3 [_, _, _, _] hs7 hs12 hs10026 R rfl ?_
            exact x_join (e' := [(0, .slice A3 (l10022).length c4), (3, .int .i64 (x22)), (4, .func (.func 36) #[] #[.pointer (some ⟨g16, 0, none⟩), .pointer (some ⟨g17, 0, none⟩), .pointer (some ⟨g18, 0, none⟩)]), (18, .int .i64 (IntKind.wrap .i64 (shrI .u64 (IntKind.wrap .u64 (x20 + x22)) 1))), (24, .int .i64 (((IntKind.wrap .i64 (shrI .u64 (IntKind.wrap .u64 (x20 + x22)) 1)) + x21) - x9710))]) ⟨rfl, rfl, rfl, rfl, rfl, trivial⟩ (.refl _) ⟨hs10026, rfl, rfl, (hle10017.trans hle10025), h10027, (h10028.trans hln9977)⟩
           ·
            rw [if_neg (fun hh => Bool.noConfusion (hh.symm.trans hc10021))] at hm
            refine c_skip ?_
            obtain rfl := some1 hm
            refine x_pullb 3 rfl ?_
            refine x_pullb 3 rfl ?_
            refine x_pullb 3 rfl ?_
            refine x_pullb 3 rfl ?_
            refine x_front3 [_, _, _, _] hs9974 hs7 hs12 R rfl ?_
            refine x_front3 [_, _, _, _] hs12 hs9974 hs7 R rfl ?_
            refine x_front3 [_, _, _, _] hs7 hs12 hs9974 R rfl ?_
            exact x_join (e' := [(0, .slice A3 (l9976).length c4), (3, .int .i64 (x22)), (4, .func (.func 36) #[] #[.pointer (some ⟨g16, 0, none⟩), .pointer (some ⟨g17, 0, none⟩), .pointer (some ⟨g18, 0, none⟩)]), (18, .int .i64 (IntKind.wrap .i64 (shrI .u64 (IntKind.wrap .u64 (x20 + x22)) 1))), (24, .int .i64 (((IntKind.wrap .i64 (shrI .u64 (IntKind.wrap .u64 (x20 + x22)) 1)) + x21) - x9710))]) ⟨rfl, rfl, rfl, rfl, rfl, trivial⟩ (.refl _) ⟨hs9974, rfl, rfl, hle10017, (h9975.le hle10017), hln9977⟩
         ·
          rintro b10007 _ _ ⟨hs10010, rfl, rfl, hle10008, h10011, hln10013⟩
          have hm := hk10014
          obtain ⟨x10032, hj10033, hk10033⟩ := bindS hm
          refine c_join (fun b10030 e' hp' => [(0, .slice A3 (l10012).length c4), (3, .int .i64 (x22)), (4, .func (.func 36) #[] #[.pointer (some ⟨g16, 0, none⟩), .pointer (some ⟨g17, 0, none⟩), .pointer (some ⟨g18, 0, none⟩)]), (18, .int .i64 (IntKind.wrap .i64 (shrI .u64 (IntKind.wrap .u64 (x20 + x22)) 1))), (24, .int .i64 (((IntKind.wrap .i64 (shrI .u64 (IntKind.wrap .u64 (x20 + x22)) 1)) + x21) - x9710)), (213, .bool (x10032))] = e' ∧ (g16, Cl 24 [.pointer (some ⟨g19, 0, none⟩)]) :: (g17, Cl 3 [.int .i64 (x23)]) :: (g18, Cl 3 [.int .i64 (x24)]) :: (g19, Cl 54 [.int .i64 (x25), .int .i64 (x26), .int .i64 (x27), .slice A8 (l29).length c9, .slice A13 (l31).length c14]) :: (hs10010 ++ (hs7 ++ (hs12 ++ R))) = hp' ∧ b10007.Le b10030) ?_ ?_
          ·
           have hm := hj10033
           refine c_region ?_
           refine t_mv rfl rfl ?_
           refine t_mv rfl rfl ?_
           refine t_bool rfl (st_lss rfl rfl) (fun hc10034 => ?_) (fun hc10034 => ?_)
           ·
            rw [if_pos hc10034] at hm
            refine t_mv rfl rfl ?_
            refine t_yes 209 rfl rfl rfl ?_
            refine t_mv rfl rfl ?_
            refine t_yes 209 rfl rfl rfl ?_
            refine t_mv rfl rfl ?_
            refine t_yes 209 rfl rfl rfl ?_
            refine t_st rfl (st_lss rfl rfl) ?_
            refine t_st rfl (st_pick_t rfl rfl) ?_
            refine t_nil ?_
            obtain rfl := some1 hm
            refine x_pullb 3 rfl ?_
            refine x_pullb 3 rfl ?_
            refine x_pullb 3 rfl ?_
            refine x_pullb 3 rfl ?_
            refine x_front3 [_, _, _, _] hs10010 hs7 hs12 R rfl ?_
            refine x_front3 [_, _, _, _] hs12 hs10010 hs7 R rfl ?_
            refine x_front3 [_, _, _, _] hs7 hs12 hs10010 R rfl ?_
            exact x_join (e' := [(0, .slice A3 (l10012).length c4), (3, .int .i64 (x22)), (4, .func (.func 36) #[] #[.pointer (some ⟨g16, 0, none⟩), .pointer (some ⟨g17, 0, none⟩), .pointer (some ⟨g18, 0, none⟩)]), (18, .int .i64 (IntKind.wrap .i64 (shrI .u64 (IntKind.wrap .u64 (x20 + x22)) 1))), (24, .int .i64 (((IntKind.wrap .i64 (shrI .u64 (IntKind.wrap .u64 (x20 + x22)) 1)) + x21) - x9710)), (213, .bool (decide ((((IntKind.wrap .i64 (shrI .u64 (IntKind.wrap .u64 (x20 + x22)) 1)) + x21) - x9710) < x22)))]) ⟨rfl, rfl, rfl, rfl, rfl, rfl, trivial⟩ (.refl _) ⟨rfl, rfl, (Base.Le.refl _)⟩
           ·
            rw [if_neg hc10034] at hm
            refine t_mv rfl rfl ?_
            refine t_no 209 rfl rfl rfl rfl rfl ?_
            refine t_no 209 rfl rfl rfl rfl rfl ?_
            refine t_no 209 rfl rfl rfl rfl rfl ?_
            refine t_st rfl (st_pick_f rfl rfl) ?_
            refine t_nil ?_
            obtain rfl := some1 hm
            refine x_pullb 3 rfl ?_
            refine x_pullb 3 rfl ?_
            refine x_pullb 3 rfl ?_
            refine x_pullb 3 rfl ?_
            refine x_front3 [_, _, _, _] hs10010 hs7 hs12 R rfl ?_
            refine x_front3 [_, _, _, _] hs12 hs10010 hs7 R rfl ?_
            refine x_front3 [_, _, _, _] hs7 hs12 hs10010 R rfl ?_
            exact x_join (e' := [(0, .slice A3 (l10012).length c4), (3, .int .i64 (x22)), (4, .func (.func 36) #[] #[.pointer (some ⟨g16, 0, none⟩), .pointer (some ⟨g17, 0, none⟩), .pointer (some ⟨g18, 0, none⟩)]), (18, .int .i64 (IntKind.wrap .i64 (shrI .u64 (IntKind.wrap .u64 (x20 + x22)) 1))), (24, .int .i64 (((IntKind.wrap .i64 (shrI .u64 (IntKind.wrap .u64 (x20 + x22)) 1)) + x21) - x9710)), (213, .bool (false))]) ⟨rfl, rfl, rfl, rfl, rfl, rfl, trivial⟩ (.refl _) ⟨rfl, rfl, (Base.Le.refl _)⟩
          ·
           rintro b10030 _ _ ⟨rfl, rfl, hle10031⟩
           have hm := hk10033
           refine c_cond _ rfl (fun hc10035 => ?_) (fun hc10035 => ?_)
           ·
            rw [if_pos hc10035] at hm
            refine c_region ?_
            refine t_mv rfl rfl ?_
            refine t_mv rfl rfl ?_
            refine t_mv rfl rfl ?_
            refine t_mv rfl rfl ?_
            refine t_mv rfl rfl ?_
            obtain ⟨l10036, hcl10037, hm⟩ := bindS hm
            refine t_pullb 3 rfl ?_
            refine t_pullb 3 rfl ?_
            refine t_pullb 3 rfl ?_
            refine t_pullb 3 rfl ?_
            refine t_front3 [_, _, _, _] hs10010 hs7 hs12 R rfl ?_
            refine t_front3 [_, _, _, _] hs12 hs10010 hs7 R rfl ?_
            refine t_front3 [_, _, _, _] hs7 hs12 hs10010 R rfl ?_
            refine t_out3 [_, _, _, _] [] hs10010 hs7 hs12 R rfl ?_
            refine t_callG _ rfl call59 rfl (ih _ _ (IntKind.wrap .i64 (shrI .u64 (IntKind.wrap .u64 (x20 + x22)) 1)) (((IntKind.wrap .i64 (shrI .u64 (IntKind.wrap .u64 (x20 + x22)) 1)) + x21) - x9710) x22 x23 x24 x25 x26 x27 l10012 l29 l31 g16 g17 g18 g19 A3 c4 hs10010 A8 c9 hs7 A13 c14 hs12 (h10011.le hle10031) (h10.le (hle9457.trans (hle9709.trans (hle9972.trans (hle10008.trans hle10031))))) hnz30 (h15.le (hle9457.trans (hle9709.trans (hle9972.trans (hle10008.trans hle10031))))) hnz32 l10036 hcl10037) ?_
            rintro _ b10038 _ hle10039 ⟨hs10040, rfl, rfl, h10041, h10042⟩
            refine t_in3 [_, _, _, _] [] hs10040 hs7 hs12 R rfl ?_
            refine t_nil ?_
            obtain rfl := some1 hm
            refine x_pullb 3 rfl ?_
            refine x_pullb 3 rfl ?_
            refine x_pullb 3 rfl ?_
            refine x_pullb 3 rfl ?_
            refine x_front3 [_, _, _, _] hs10040 hs7 hs12 R rfl ?_
            refine x_front3 [_, _, _, _] hs12 hs10040 hs7 R rfl ?_
            refine x_front3 [_, _, _, _] hs7 hs12 hs10040 R rfl ?_
            exact endM (hle9457.trans (hle9709.trans (hle9972.trans (hle10008.trans (hle10031.trans hle10039))))) rfl (.refl _) ⟨hs10040, rfl, rfl, h10041, (h10042.trans hln10013)⟩
           ·
            rw [if_neg (fun hh => Bool.noConfusion (hh.symm.trans hc10035))] at hm
            refine c_skip ?_
            obtain rfl := some1 hm
            refine x_pullb 3 rfl ?_
            refine x_pullb 3 rfl ?_
            refine x_pullb 3 rfl ?_
            refine x_pullb 3 rfl ?_
            refine x_front3 [_, _, _, _] hs10010 hs7 hs12 R rfl ?_
            refine x_front3 [_, _, _, _] hs12 hs10010 hs7 R rfl ?_
            refine x_front3 [_, _, _, _] hs7 hs12 hs10010 R rfl ?_
            have he10043 := (h10011.le hle10031)
            exact endM (hle9457.trans (hle9709.trans (hle9972.trans (hle10008.trans hle10031)))) rfl (.refl _) ⟨hs10010, rfl, rfl, he10043, hln10013⟩

set_option maxRecDepth 20000 in
theorem cSlicesStableCmpFunc (b : Base) (R : Hp) (x20 : Int) (x21 : Int) (x22 : Int) (x23 : Int) (x24 : Int) (x25 : Int) (l26 : (List Int)) (l27 : (List FareBooking)) (l29 : (List Bool)) (g16 : Nat) (g17 : Nat) (g18 : Nat) (g19 : Nat) (A3 : Option Addr) (c4 : Nat) (hs2 : Hp) (A8 : Option Addr) (c9 : Nat) (hs7 : Hp) (A13 : Option Addr) (c14 : Nat) (hs12 : Hp) (h5 : OS 3 (OT.fr (RT.int .i64)) b.w (.slice A3 l26.length c4) l26 hs2) (h10 : OS 32 (OT.fr rFareBooking) b.w (.slice A8 l27.length c9) l27 hs7) (hnz28 : (A8 = none ↔ l27 = [])) (h15 : OS 4 (OT.fr RT.bool) b.w (.slice A13 l29.length c14) l29 hs12) (hnz30 : (A13 = none ↔ l29 = [])) (l567 : (List Int)) (hm : mSlicesStableCmpFunc x20 x21 x22 x23 x24 x25 l26 l27 l29 = some l567) :
    CallsG Tryz.prog 39 [.slice A3 (l26).length c4, .int .i64 (x20), .func (.func 36) #[] #[.pointer (some ⟨g16, 0, none⟩), .pointer (some ⟨g17, 0, none⟩), .pointer (some ⟨g18, 0, none⟩)]] b ((g16, Cl 24 [.pointer (some ⟨g19, 0, none⟩)]) :: (g17, Cl 3 [.int .i64 (x21)]) :: (g18, Cl 3 [.int .i64 (x22)]) :: (g19, Cl 54 [.int .i64 (x23), .int .i64 (x24), .int .i64 (x25), .slice A8 (l27).length c9, .slice A13 (l29).length c14]) :: (hs2 ++ (hs7 ++ (hs12 ++ R)))) (fun v b' hp' => ∃ (hs565 : Hp), .tuple #[] = v ∧ (g16, Cl 24 [.pointer (some ⟨g19, 0, none⟩)]) :: (g17, Cl 3 [.int .i64 (x21)]) :: (g18, Cl 3 [.int .i64 (x22)]) :: (g19, Cl 54 [.int .i64 (x23), .int .i64 (x24), .int .i64 (x25), .slice A8 (l27).length c9, .slice A13 (l29).length c14]) :: (hs565 ++ (hs7 ++ (hs12 ++ R))) = hp' ∧ OS 3 (OT.fr (RT.int .i64)) b'.w (.slice A3 l567.length c4) l567 hs565 ∧ l567.length = l26.length) := by
  refine fn_enterG 63 Tryz.func39 rfl Tryz.ntmps39 rfl ?_
  unfold mSlicesStableCmpFunc at hm
  refine c_sr ?_
  refine t_as rfl rfl ?_
  refine t_ne ?_
  refine c_sr ?_
  refine t_mv rfl rfl ?_
  refine t_as rfl rfl ?_
  refine t_as rfl rfl ?_
  refine t_ne ?_
  obtain ⟨⟨x618, l619⟩, hj621, hk621⟩ := bindS hm
  refine c_join (fun b613 e' hp' => ∃ (hs616 : Hp), [(0, .slice A3 (l619).length c4), (1, .int .i64 (x20)), (2, .func (.func 36) #[] #[.pointer (some ⟨g16, 0, none⟩), .pointer (some ⟨g17, 0, none⟩), .pointer (some ⟨g18, 0, none⟩)]), (6, .int .i64 (20)), (7, .int .i64 (x618))] = e' ∧ (g16, Cl 24 [.pointer (some ⟨g19, 0, none⟩)]) :: (g17, Cl 3 [.int .i64 (x21)]) :: (g18, Cl 3 [.int .i64 (x22)]) :: (g19, Cl 54 [.int .i64 (x23), .int .i64 (x24), .int .i64 (x25), .slice A8 (l27).length c9, .slice A13 (l29).length c14]) :: (hs616 ++ (hs7 ++ (hs12 ++ R))) = hp' ∧ b.Le b613 ∧ OS 3 (OT.fr (RT.int .i64)) b613.w (.slice A3 l619.length c4) l619 hs616 ∧ l619.length = l26.length) ?_ ?_
  ·
   have hm := hj621
   refine c_block ?_
   refine c_pullb 3 rfl ?_
   refine c_pullb 3 rfl ?_
   refine c_pullb 3 rfl ?_
   refine c_pullb 3 rfl ?_
   refine c_front3 [_, _, _, _] hs2 hs7 hs12 R rfl ?_
   refine c_front3 [_, _, _, _] hs12 hs2 hs7 R rfl ?_
   refine c_front3 [_, _, _, _] hs7 hs12 hs2 R rfl ?_
   refine c_loopM (unc3 fun x653 x654 l655 => fun b648 e' hp' => ∃ (hs651 : Hp), [(0, .slice A3 (l655).length c4), (1, .int .i64 (x20)), (2, .func (.func 36) #[] #[.pointer (some ⟨g16, 0, none⟩), .pointer (some ⟨g17, 0, none⟩), .pointer (some ⟨g18, 0, none⟩)]), (6, .int .i64 (20)), (7, .int .i64 (x653)), (8, .int .i64 (x654))] = e' ∧ (g16, Cl 24 [.pointer (some ⟨g19, 0, none⟩)]) :: (g17, Cl 3 [.int .i64 (x21)]) :: (g18, Cl 3 [.int .i64 (x22)]) :: (g19, Cl 54 [.int .i64 (x23), .int .i64 (x24), .int .i64 (x25), .slice A8 (l27).length c9, .slice A13 (l29).length c14]) :: (hs651 ++ (hs7 ++ (hs12 ++ R))) = hp' ∧ b.Le b648 ∧ OS 3 (OT.fr (RT.int .i64)) b648.w (.slice A3 l655.length c4) l655 hs651 ∧ l655.length = l26.length) hm (e' := [(0, .slice A3 (l26).length c4), (1, .int .i64 (x20)), (2, .func (.func 36) #[] #[.pointer (some ⟨g16, 0, none⟩), .pointer (some ⟨g17, 0, none⟩), .pointer (some ⟨g18, 0, none⟩)]), (6, .int .i64 (20)), (7, .int .i64 (0)), (8, .int .i64 (20))]) ⟨rfl, rfl, rfl, rfl, rfl, rfl, trivial⟩ (.refl _) ⟨hs2, rfl, rfl, (Base.Le.refl _), h5, rfl⟩ ?_
   rintro ⟨x653, x654, l655⟩ b648 _ _ oL622 ⟨hs651, rfl, rfl, hle649, h652, hln656⟩ hstepL622 houtL622
   unfold mSlicesStableCmpFunc_L622 at hstepL622
   have hm := (unc3E hstepL622)
   refine c_seq ?_
   refine c_sr ?_
   refine t_mv rfl rfl ?_
   refine t_mv rfl rfl ?_
   refine t_st rfl (st_leq rfl rfl) ?_
   refine t_ne ?_
   refine c_cond _ rfl (fun hc657 => ?_) (fun hc657 => ?_)
   ·
    rw [if_pos (of_decide_eq_true hc657)] at hm
    refine c_skip ?_
    refine x_then_normal ?_
    refine c_block ?_
    refine c_sr ?_
    refine t_mv rfl rfl ?_
    refine t_mv rfl rfl ?_
    refine t_mv rfl rfl ?_
    refine t_mv rfl rfl ?_
    obtain ⟨l658, hcl659, hm⟩ := bindS hm
    refine t_pullb 3 rfl ?_
    refine t_pullb 3 rfl ?_
    refine t_pullb 3 rfl ?_
    refine t_pullb 3 rfl ?_
    refine t_front3 [_, _, _, _] hs651 hs7 hs12 R rfl ?_
    refine t_front3 [_, _, _, _] hs12 hs651 hs7 R rfl ?_
    refine t_front3 [_, _, _, _] hs7 hs12 hs651 R rfl ?_
    refine t_out3 [_, _, _, _] [] hs651 hs7 hs12 R rfl ?_
    refine t_callG _ rfl call58 rfl (cSlicesInsertionSortCmpFunc _ _ x653 x654 x21 x22 x23 x24 x25 l655 l27 l29 g16 g17 g18 g19 A3 c4 hs651 A8 c9 hs7 A13 c14 hs12 h652 (h10.le hle649) hnz28 (h15.le hle649) hnz30 l658 hcl659) ?_
    rintro _ b660 _ hle661 ⟨hs662, rfl, rfl, h663, h664⟩
    refine t_in3 [_, _, _, _] [] hs662 hs7 hs12 R rfl ?_
    refine t_resp 0 rfl (v' := .slice A3 (l658).length c4) (by rw [h664]) ?_
    refine t_ne ?_
    refine c_sr ?_
    refine t_mv rfl rfl ?_
    refine t_as rfl rfl ?_
    refine t_ne ?_
    refine c_region ?_
    refine t_mv rfl rfl ?_
    refine t_mv rfl rfl ?_
    obtain ⟨_, h665, hm⟩ := bindS hm
    have h665 := (chk_some h665).2
    refine t_st rfl (st_add rfl rfl h665) ?_
    refine t_as rfl rfl ?_
    refine t_nil ?_
    refine x_block_normal ?_
    refine x_pullb 3 rfl ?_
    refine x_pullb 3 rfl ?_
    refine x_pullb 3 rfl ?_
    refine x_pullb 3 rfl ?_
    refine x_front3 [_, _, _, _] hs662 hs7 hs12 R rfl ?_
    refine x_front3 [_, _, _, _] hs12 hs662 hs7 R rfl ?_
    refine x_front3 [_, _, _, _] hs7 hs12 hs662 R rfl ?_
    exact x_againM (x654, x654 + 20, l658) (Option.some.inj hm).symm (e' := [(0, .slice A3 (l658).length c4), (1, .int .i64 (x20)), (2, .func (.func 36) #[] #[.pointer (some ⟨g16, 0, none⟩), .pointer (some ⟨g17, 0, none⟩), .pointer (some ⟨g18, 0, none⟩)]), (6, .int .i64 (20)), (7, .int .i64 (x654)), (8, .int .i64 (x654 + 20))]) ⟨rfl, rfl, rfl, rfl, rfl, rfl, trivial⟩ (.refl _) ⟨hs662, rfl, rfl, ((hle649.trans hle661)), h663, (h664.trans hln656)⟩
   ·
    rw [if_neg (of_decide_eq_false hc657)] at hm
    refine c_exit ?_
    refine x_then_exit ?_
    refine x_then_exit ?_
    refine x_block_out ?_
    have hm := congrArg some (houtL622 _ (Option.some.inj hm).symm)
    obtain ⟨rfl, rfl⟩ := some2 hm
    refine x_pullb 3 rfl ?_
    refine x_pullb 3 rfl ?_
    refine x_pullb 3 rfl ?_
    refine x_pullb 3 rfl ?_
    refine x_front3 [_, _, _, _] hs651 hs7 hs12 R rfl ?_
    refine x_front3 [_, _, _, _] hs12 hs651 hs7 R rfl ?_
    refine x_front3 [_, _, _, _] hs7 hs12 hs651 R rfl ?_
    exact x_join (e' := [(0, .slice A3 (l655).length c4), (1, .int .i64 (x20)), (2, .func (.func 36) #[] #[.pointer (some ⟨g16, 0, none⟩), .pointer (some ⟨g17, 0, none⟩), .pointer (some ⟨g18, 0, none⟩)]), (6, .int .i64 (20)), (7, .int .i64 (x653))]) ⟨rfl, rfl, rfl, rfl, rfl, trivial⟩ (.refl _) ⟨hs651, rfl, rfl, hle649, h652, hln656⟩
  ·
   rintro b613 _ _ ⟨hs616, rfl, rfl, hle614, h617, hln620⟩
   have hm := (unc2E hk621)
   refine c_sr ?_
   refine t_mv rfl rfl ?_
   refine t_mv rfl rfl ?_
   refine t_mv rfl rfl ?_
   refine t_mv rfl rfl ?_
   obtain ⟨l666, hcl667, hm⟩ := bindS hm
   refine t_pullb 3 rfl ?_
   refine t_pullb 3 rfl ?_
   refine t_pullb 3 rfl ?_
   refine t_pullb 3 rfl ?_
   refine t_front3 [_, _, _, _] hs616 hs7 hs12 R rfl ?_
   refine t_front3 [_, _, _, _] hs12 hs616 hs7 R rfl ?_
   refine t_front3 [_, _, _, _] hs7 hs12 hs616 R rfl ?_
   refine t_out3 [_, _, _, _] [] hs616 hs7 hs12 R rfl ?_
   refine t_callG _ rfl call58 rfl (cSlicesInsertionSortCmpFunc _ _ x618 x20 x21 x22 x23 x24 x25 l619 l27 l29 g16 g17 g18 g19 A3 c4 hs616 A8 c9 hs7 A13 c14 hs12 h617 (h10.le hle614) hnz28 (h15.le hle614) hnz30 l666 hcl667) ?_
   rintro _ b668 _ hle669 ⟨hs670, rfl, rfl, h671, h672⟩
   refine t_in3 [_, _, _, _] [] hs670 hs7 hs12 R rfl ?_
   refine t_resp 0 rfl (v' := .slice A3 (l666).length c4) (by rw [h672]) ?_
   refine t_ne ?_
   refine c_block ?_
   refine c_pullb 3 rfl ?_
   refine c_pullb 3 rfl ?_
   refine c_pullb 3 rfl ?_
   refine c_pullb 3 rfl ?_
   refine c_front3 [_, _, _, _] hs670 hs7 hs12 R rfl ?_
   refine c_front3 [_, _, _, _] hs12 hs670 hs7 R rfl ?_
   refine c_front3 [_, _, _, _] hs7 hs12 hs670 R rfl ?_
   refine c_loopM (unc2 fun x961 l962 => fun b956 e' hp' => ∃ (hs959 : Hp), [(0, .slice A3 (l962).length c4), (1, .int .i64 (x20)), (2, .func (.func 36) #[] #[.pointer (some ⟨g16, 0, none⟩), .pointer (some ⟨g17, 0, none⟩), .pointer (some ⟨g18, 0, none⟩)]), (6, .int .i64 (x961))] = e' ∧ (g16, Cl 24 [.pointer (some ⟨g19, 0, none⟩)]) :: (g17, Cl 3 [.int .i64 (x21)]) :: (g18, Cl 3 [.int .i64 (x22)]) :: (g19, Cl 54 [.int .i64 (x23), .int .i64 (x24), .int .i64 (x25), .slice A8 (l27).length c9, .slice A13 (l29).length c14]) :: (hs959 ++ (hs7 ++ (hs12 ++ R))) = hp' ∧ b668.Le b956 ∧ OS 3 (OT.fr (RT.int .i64)) b956.w (.slice A3 l962.length c4) l962 hs959 ∧ l962.length = l26.length) hm (e' := [(0, .slice A3 (l666).length c4), (1, .int .i64 (x20)), (2, .func (.func 36) #[] #[.pointer (some ⟨g16, 0, none⟩), .pointer (some ⟨g17, 0, none⟩), .pointer (some ⟨g18, 0, none⟩)]), (6, .int .i64 (20))]) ⟨rfl, rfl, rfl, rfl, trivial⟩ (.refl _) ⟨hs670, rfl, rfl, (Base.Le.refl _), h671, (h672.trans hln620)⟩ ?_
   rintro ⟨x961, l962⟩ b956 _ _ oL673 ⟨hs959, rfl, rfl, hle957, h960, hln963⟩ hstepL673 houtL673
   unfold mSlicesStableCmpFunc_L673 at hstepL673
   have hm := (unc2E hstepL673)
   refine c_seq ?_
   refine c_sr ?_
   refine t_mv rfl rfl ?_
   refine t_mv rfl rfl ?_
   refine t_st rfl (st_lss rfl rfl) ?_
   refine t_ne ?_
   refine c_cond _ rfl (fun hc964 => ?_) (fun hc964 => ?_)
   ·
    rw [if_pos (of_decide_eq_true hc964)] at hm
    refine c_skip ?_
    refine x_then_normal ?_
    refine c_block ?_
    refine c_sr ?_
    refine t_mv rfl rfl ?_
    obtain ⟨_, h965, hm⟩ := bindS hm
    have h965 := (chk_some h965).2
    refine t_st rfl (st_mul rfl rfl h965) ?_
    refine t_as rfl rfl ?_
    refine t_as rfl rfl ?_
    refine t_ne ?_
    obtain ⟨⟨x1021, l1022⟩, hj1024, hk1024⟩ := bindS hm
    refine c_join (fun b1016 e' hp' => ∃ (hs1019 : Hp), [(0, .slice A3 (l1022).length c4), (1, .int .i64 (x20)), (2, .func (.func 36) #[] #[.pointer (some ⟨g16, 0, none⟩), .pointer (some ⟨g17, 0, none⟩), .pointer (some ⟨g18, 0, none⟩)]), (6, .int .i64 (x961)), (7, .int .i64 (x1021))] = e' ∧ (g16, Cl 24 [.pointer (some ⟨g19, 0, none⟩)]) :: (g17, Cl 3 [.int .i64 (x21)]) :: (g18, Cl 3 [.int .i64 (x22)]) :: (g19, Cl 54 [.int .i64 (x23), .int .i64 (x24), .int .i64 (x25), .slice A8 (l27).length c9, .slice A13 (l29).length c14]) :: (hs1019 ++ (hs7 ++ (hs12 ++ R))) = hp' ∧ b956.Le b1016 ∧ OS 3 (OT.fr (RT.int .i64)) b1016.w (.slice A3 l1022.length c4) l1022 hs1019 ∧ l1022.length = l26.length) ?_ ?_
    ·
     have hm := hj1024
     refine c_block ?_
     refine c_pullb 3 rfl ?_
     refine c_pullb 3 rfl ?_
     refine c_pullb 3 rfl ?_
     refine c_pullb 3 rfl ?_
     refine c_front3 [_, _, _, _] hs959 hs7 hs12 R rfl ?_
     refine c_front3 [_, _, _, _] hs12 hs959 hs7 R rfl ?_
     refine c_front3 [_, _, _, _] hs7 hs12 hs959 R rfl ?_
     refine c_loopM (unc3 fun x1060 x1061 l1062 => fun b1055 e' hp' => ∃ (hs1058 : Hp), [(0, .slice A3 (l1062).length c4), (1, .int .i64 (x20)), (2, .func (.func 36) #[] #[.pointer (some ⟨g16, 0, none⟩), .pointer (some ⟨g17, 0, none⟩), .pointer (some ⟨g18, 0, none⟩)]), (6, .int .i64 (x961)), (7, .int .i64 (x1060)), (8, .int .i64 (x1061))] = e' ∧ (g16, Cl 24 [.pointer (some ⟨g19, 0, none⟩)]) :: (g17, Cl 3 [.int .i64 (x21)]) :: (g18, Cl 3 [.int .i64 (x22)]) :: (g19, Cl 54 [.int .i64 (x23), .int .i64 (x24), .int .i64 (x25), .slice A8 (l27).length c9, .slice A13 (l29).length c14]) :: (hs1058 ++ (hs7 ++ (hs12 ++ R))) = hp' ∧ b956.Le b1055 ∧ OS 3 (OT.fr (RT.int .i64)) b1055.w (.slice A3 l1062.length c4) l1062 hs1058 ∧ l1062.length = l26.length) hm (e' := [(0, .slice A3 (l962).length c4), (1, .int .i64 (x20)), (2, .func (.func 36) #[] #[.pointer (some ⟨g16, 0, none⟩), .pointer (some ⟨g17, 0, none⟩), .pointer (some ⟨g18, 0, none⟩)]), (6, .int .i64 (x961)), (7, .int .i64 (0)), (8, .int .i64 (2 * x961))]) ⟨rfl, rfl, rfl, rfl, rfl, rfl, trivial⟩ (.refl _) ⟨hs959, rfl, rfl, (Base.Le.refl _), h960, hln963⟩ ?_
     rintro ⟨x1060, x1061, l1062⟩ b1055 _ _ oL1025 ⟨hs1058, rfl, rfl, hle1056, h1059, hln1063⟩ hstepL1025 houtL1025
     unfold mSlicesStableCmpFunc_L1025 at hstepL1025
     have hm := (unc3E hstepL1025)
     refine c_seq ?_
     refine c_sr ?_
     refine t_mv rfl rfl ?_
     refine t_mv rfl rfl ?_
     refine t_st rfl (st_leq rfl rfl) ?_
     refine t_ne ?_
     refine c_cond _ rfl (fun hc1064 => ?_) (fun hc1064 => ?_)
     ·
      rw [if_pos (of_decide_eq_true hc1064)] at hm
      refine c_skip ?_
      refine x_then_normal ?_
      refine c_block ?_
      refine c_sr ?_
      refine t_mv rfl rfl ?_
      refine t_mv rfl rfl ?_
      refine t_mv rfl rfl ?_
      refine t_mv rfl rfl ?_
      obtain ⟨_, h1065, hm⟩ := bindS hm
      have h1065 := (chk_some h1065).2
      refine t_st rfl (st_add rfl rfl h1065) ?_
      refine t_mv rfl rfl ?_
      refine t_mv rfl rfl ?_
      obtain ⟨l1066, hcl1067, hm⟩ := bindS hm
      obtain ⟨Nhcl1067, hcl1067⟩ := lim_some hcl1067
      refine t_pullb 3 rfl ?_
      refine t_pullb 3 rfl ?_
      refine t_pullb 3 rfl ?_
      refine t_pullb 3 rfl ?_
      refine t_front3 [_, _, _, _] hs1058 hs7 hs12 R rfl ?_
      refine t_front3 [_, _, _, _] hs12 hs1058 hs7 R rfl ?_
      refine t_front3 [_, _, _, _] hs7 hs12 hs1058 R rfl ?_
      refine t_out3 [_, _, _, _] [] hs1058 hs7 hs12 R rfl ?_
      refine t_callG _ rfl call59 rfl (cSlicesSymMergeCmpFunc Nhcl1067 _ _ x1060 (x1060 + x961) x1061 x21 x22 x23 x24 x25 l1062 l27 l29 g16 g17 g18 g19 A3 c4 hs1058 A8 c9 hs7 A13 c14 hs12 h1059 (h10.le (hle614.trans (hle669.trans (hle957.trans hle1056)))) hnz28 (h15.le (hle614.trans (hle669.trans (hle957.trans hle1056)))) hnz30 l1066 hcl1067) ?_
      rintro _ b1068 _ hle1069 ⟨hs1070, rfl, rfl, h1071, h1072⟩
      refine t_in3 [_, _, _, _] [] hs1070 hs7 hs12 R rfl ?_
      refine t_resp 0 rfl (v' := .slice A3 (l1066).length c4) (by rw [h1072]) ?_
      refine t_ne ?_
      refine c_sr ?_
      refine t_mv rfl rfl ?_
      refine t_as rfl rfl ?_
      refine t_ne ?_
      refine c_region ?_
      refine t_mv rfl rfl ?_
      refine t_mv rfl rfl ?_
      obtain ⟨_, h1073, hm⟩ := bindS hm
      have h1073 := (chk_some h1073).2
      refine t_st rfl (st_mul rfl rfl h1073) ?_
      obtain ⟨_, h1074, hm⟩ := bindS hm
      have h1074 := (chk_some h1074).2
      refine t_st rfl (st_add rfl rfl h1074) ?_
      refine t_as rfl rfl ?_
      refine t_nil ?_
      refine x_block_normal ?_
      refine x_pullb 3 rfl ?_
      refine x_pullb 3 rfl ?_
      refine x_pullb 3 rfl ?_
      refine x_pullb 3 rfl ?_
      refine x_front3 [_, _, _, _] hs1070 hs7 hs12 R rfl ?_
      refine x_front3 [_, _, _, _] hs12 hs1070 hs7 R rfl ?_
      refine x_front3 [_, _, _, _] hs7 hs12 hs1070 R rfl ?_
      exact x_againM (x1061, x1061 + (2 * x961), l1066) (Option.some.inj hm).symm (e' := [(0, .slice A3 (l1066).length c4), (1, .int .i64 (x20)), (2, .func (.func 36) #[] #[.pointer (some ⟨g16, 0, none⟩), .pointer (some ⟨g17, 0, none⟩), .pointer (some ⟨g18, 0, none⟩)]), (6, .int .i64 (x961)), (7, .int .i64 (x1061)), (8, .int .i64 (x1061 + (2 * x961)))]) ⟨rfl, rfl, rfl, rfl, rfl, rfl, trivial⟩ (.refl _) ⟨hs1070, rfl, rfl, ((hle1056.trans hle1069)), h1071, (h1072.trans hln1063)⟩
     ·
      rw [if_neg (of_decide_eq_false hc1064)] at hm
      refine c_exit ?_
      refine x_then_exit ?_
      refine x_then_exit ?_
      refine x_block_out ?_
      have hm := congrArg some (houtL1025 _ (Option.some.inj hm).symm)
      obtain ⟨rfl, rfl⟩ := some2 hm
      refine x_pullb 3 rfl ?_
      refine x_pullb 3 rfl ?_
      refine x_pullb 3 rfl ?_
      refine x_pullb 3 rfl ?_
      refine x_front3 [_, _, _, _] hs1058 hs7 hs12 R rfl ?_
      refine x_front3 [_, _, _, _] hs12 hs1058 hs7 R rfl ?_
      refine x_front3 [_, _, _, _] hs7 hs12 hs1058 R rfl ?_
      exact x_join (e' := [(0, .slice A3 (l1062).length c4), (1, .int .i64 (x20)), (2, .func (.func 36) #[] #[.pointer (some ⟨g16, 0, none⟩), .pointer (some ⟨g17, 0, none⟩), .pointer (some ⟨g18, 0, none⟩)]), (6, .int .i64 (x961)), (7, .int .i64 (x1060))]) ⟨rfl, rfl, rfl, rfl, rfl, trivial⟩ (.refl _) ⟨hs1058, rfl, rfl, hle1056, h1059, hln1063⟩
    ·
     rintro b1016 _ _ ⟨hs1019, rfl, rfl, hle1017, h1020, hln1023⟩
     have hm := (unc2E hk1024)
     obtain ⟨l1089, hj1091, hk1091⟩ := bindS hm
     refine c_join (fun b1084 e' hp' => ∃ (hs1087 : Hp), [(0, .slice A3 (l1089).length c4), (1, .int .i64 (x20)), (2, .func (.func 36) #[] #[.pointer (some ⟨g16, 0, none⟩), .pointer (some ⟨g17, 0, none⟩), .pointer (some ⟨g18, 0, none⟩)]), (6, .int .i64 (x961))] = e' ∧ (g16, Cl 24 [.pointer (some ⟨g19, 0, none⟩)]) :: (g17, Cl 3 [.int .i64 (x21)]) :: (g18, Cl 3 [.int .i64 (x22)]) :: (g19, Cl 54 [.int .i64 (x23), .int .i64 (x24), .int .i64 (x25), .slice A8 (l27).length c9, .slice A13 (l29).length c14]) :: (hs1087 ++ (hs7 ++ (hs12 ++ R))) = hp' ∧ b1016.Le b1084 ∧ OS 3 (OT.fr (RT.int .i64)) b1084.w (.slice A3 l1089.length c4) l1089 hs1087 ∧ l1089.length = l26.length) ?_ ?_
     ·
      have hm := hj1091
      refine c_sr ?_
      refine t_mv rfl rfl ?_
      refine t_mv rfl rfl ?_
      obtain ⟨_, h1092, hm⟩ := bindS hm
      have h1092 := (chk_some h1092).2
      refine t_st rfl (st_add rfl rfl h1092) ?_
      refine t_as rfl rfl ?_
      refine t_ne ?_
      refine c_sr ?_
      refine t_mv rfl rfl ?_
      refine t_mv rfl rfl ?_
      refine t_st rfl (st_lss rfl rfl) ?_
      refine t_ne ?_
      refine c_cond _ rfl (fun hc1093 => ?_) (fun hc1093 => ?_)
      ·
       rw [if_pos (of_decide_eq_true hc1093)] at hm
       refine c_region ?_
       refine t_mv rfl rfl ?_
       refine t_mv rfl rfl ?_
       refine t_mv rfl rfl ?_
       refine t_mv rfl rfl ?_
       refine t_mv rfl rfl ?_
       obtain ⟨l1094, hcl1095, hm⟩ := bindS hm
       obtain ⟨Nhcl1095, hcl1095⟩ := lim_some hcl1095
       refine t_pullb 3 rfl ?_
       refine t_pullb 3 rfl ?_
       refine t_pullb 3 rfl ?_
       refine t_pullb 3 rfl ?_
       refine t_front3 [_, _, _, _] hs1019 hs7 hs12 R rfl ?_
       refine t_front3 [_, _, _, _] hs12 hs1019 hs7 R rfl ?_
       refine t_front3 [_, _, _, _] hs7 hs12 hs1019 R rfl ?_
       refine t_out3 [_, _, _, _] [] hs1019 hs7 hs12 R rfl ?_
       refine t_callG _ rfl call59 rfl (cSlicesSymMergeCmpFunc Nhcl1095 _ _ x1021 (x1021 + x961) x20 x21 x22 x23 x24 x25 l1022 l27 l29 g16 g17 g18 g19 A3 c4 hs1019 A8 c9 hs7 A13 c14 hs12 h1020 (h10.le (hle614.trans (hle669.trans (hle957.trans hle1017)))) hnz28 (h15.le (hle614.trans (hle669.trans (hle957.trans hle1017)))) hnz30 l1094 hcl1095) ?_
       rintro _ b1096 _ hle1097 ⟨hs1098, rfl, rfl, h1099, h1100⟩
       refine t_in3 [_, _, _, _] [] hs1098 hs7 hs12 R rfl ?_
       refine t_resp 0 rfl (v' := .slice A3 (l1094).length c4) (by rw [h1100]) ?_
       refine t_nil ?_
       obtain rfl := some1 hm
       refine x_pullb 3 rfl ?_
       refine x_pullb 3 rfl ?_
       refine x_pullb 3 rfl ?_
       refine x_pullb 3 rfl ?_
       refine x_front3 [_, _, _, _] hs1098 hs7 hs12 R rfl ?_
       refine x_front3 [_, _, _, _] hs12 hs1098 hs7 R rfl ?_
       refine x_front3 [_, _, _, _] hs7 hs12 hs1098 R rfl ?_
       exact x_join (e' := [(0, .slice A3 (l1094).length c4), (1, .int .i64 (x20)), (2, .func (.func 36) #[] #[.pointer (some ⟨g16, 0, none⟩), .pointer (some ⟨g17, 0, none⟩), .pointer (some ⟨g18, 0, none⟩)]), (6, .int .i64 (x961))]) ⟨rfl, rfl, rfl, rfl, trivial⟩ (.refl _) ⟨hs1098, rfl, rfl, hle1097, h1099, (h1100.trans hln1023)⟩
      ·
       rw [if_neg (of_decide_eq_false hc1093)] at hm
       refine c_skip ?_
       obtain rfl := some1 hm
       refine x_pullb 3 rfl ?_
       refine x_pullb 3 rfl ?_
       refine x_pullb 3 rfl ?_
       refine x_pullb 3 rfl ?_
       refine x_front3 [_, _, _, _] hs1019 hs7 hs12 R rfl ?_
       refine x_front3 [_, _, _, _] hs12 hs1019 hs7 R rfl ?_
       refine x_front3 [_, _, _, _] hs7 hs12 hs1019 R rfl ?_
       exact x_join (e' := [(0, .slice A3 (l1022).length c4), (1, .int .i64 (x20)), (2, .func (.func 36) #[] #[.pointer (some ⟨g16, 0, none⟩), .pointer (some ⟨g17, 0, none⟩), .pointer (some ⟨g18, 0, none⟩)]), (6, .int .i64 (x961))]) ⟨rfl, rfl, rfl, rfl, trivial⟩ (.refl _) ⟨hs1019, rfl, rfl, (Base.Le.refl _), h1020, hln1023⟩
     ·
      rintro b1084 _ _ ⟨hs1087, rfl, rfl, hle1085, h1088, hln1090⟩
      have hm := hk1091
      refine c_region ?_
      refine t_mv rfl rfl ?_
      obtain ⟨_, h1101, hm⟩ := bindS hm
      have h1101 := (chk_some h1101).2
      refine t_st rfl (st_mul rfl rfl h1101) ?_
      refine t_as rfl rfl ?_
      refine t_nil ?_
      refine x_block_normal ?_
      refine x_pullb 3 rfl ?_
      refine x_pullb 3 rfl ?_
      refine x_pullb 3 rfl ?_
      refine x_pullb 3 rfl ?_
      refine x_front3 [_, _, _, _] hs1087 hs7 hs12 R rfl ?_
      refine x_front3 [_, _, _, _] hs12 hs1087 hs7 R rfl ?_
      refine x_front3 [_, _, _, _] hs7 hs12 hs1087 R rfl ?_
      exact x_againM (x961 * 2, l1089) (Option.some.inj hm).symm (e' := [(0, .slice A3 (l1089).length c4), (1, .int .i64 (x20)), (2, .func (.func 36) #[] #[.pointer (some ⟨g16, 0, none⟩), .pointer (some ⟨g17, 0, none⟩), .pointer (some ⟨g18, 0, none⟩)]), (6, .int .i64 (x961 * 2))]) ⟨rfl, rfl, rfl, rfl, trivial⟩ (.refl _) ⟨hs1087, rfl, rfl, ((hle957.trans (hle1017.trans hle1085))), h1088, hln1090⟩
   ·
    rw [if_neg (of_decide_eq_false hc964)] at hm
    refine c_exit ?_
    refine x_then_exit ?_
    refine x_then_exit ?_
    refine x_block_out ?_
    have hm := congrArg some (houtL673 _ (Option.some.inj hm).symm)
    obtain rfl := some1 hm
    refine x_pullb 3 rfl ?_
    refine x_pullb 3 rfl ?_
    refine x_pullb 3 rfl ?_
    refine x_pullb 3 rfl ?_
    refine x_front3 [_, _, _, _] hs959 hs7 hs12 R rfl ?_
    refine x_front3 [_, _, _, _] hs12 hs959 hs7 R rfl ?_
    refine x_front3 [_, _, _, _] hs7 hs12 hs959 R rfl ?_
    exact endM (hle614.trans (hle669.trans hle957)) rfl (.refl _) ⟨hs959, rfl, rfl, h960, hln963⟩

set_option maxRecDepth 20000 in
theorem cSlicesSortStableFunc (b : Base) (R : Hp) (x20 : Int) (x21 : Int) (x22 : Int) (x23 : Int) (x24 : Int) (l25 : (List Int)) (l26 : (List FareBooking)) (l28 : (List Bool)) (g16 : Nat) (g17 : Nat) (g18 : Nat) (g19 : Nat) (A3 : Option Addr) (c4 : Nat) (hs2 : Hp) (A8 : Option Addr) (c9 : Nat) (hs7 : Hp) (A13 : Option Addr) (c14 : Nat) (hs12 : Hp) (h5 : OS 3 (OT.fr (RT.int .i64)) b.w (.slice A3 l25.length c4) l25 hs2) (h10 : OS 32 (OT.fr rFareBooking) b.w (.slice A8 l26.length c9) l26 hs7) (hnz27 : (A8 = none ↔ l26 = [])) (h15 : OS 4 (OT.fr RT.bool) b.w (.slice A13 l28.length c14) l28 hs12) (hnz29 : (A13 = none ↔ l28 = [])) (l40 : (List Int)) (hm : mSlicesSortStableFunc x20 x21 x22 x23 x24 l25 l26 l28 = some l40) :
    CallsG Tryz.prog 24 [.slice A3 (l25).length c4, .func (.func 36) #[] #[.pointer (some ⟨g16, 0, none⟩), .pointer (some ⟨g17, 0, none⟩), .pointer (some ⟨g18, 0, none⟩)]] b ((g16, Cl 24 [.pointer (some ⟨g19, 0, none⟩)]) :: (g17, Cl 3 [.int .i64 (x20)]) :: (g18, Cl 3 [.int .i64 (x21)]) :: (g19, Cl 54 [.int .i64 (x22), .int .i64 (x23), .int .i64 (x24), .slice A8 (l26).length c9, .slice A13 (l28).length c14]) :: (hs2 ++ (hs7 ++ (hs12 ++ R)))) (fun v b' hp' => ∃ (hs38 : Hp), .tuple #[] = v ∧ (g16, Cl 24 [.pointer (some ⟨g19, 0, none⟩)]) :: (g17, Cl 3 [.int .i64 (x20)]) :: (g18, Cl 3 [.int .i64 (x21)]) :: (g19, Cl 54 [.int .i64 (x22), .int .i64 (x23), .int .i64 (x24), .slice A8 (l26).length c9, .slice A13 (l28).length c14]) :: (hs38 ++ (hs7 ++ (hs12 ++ R))) = hp' ∧ OS 3 (OT.fr (RT.int .i64)) b'.w (.slice A3 l40.length c4) l40 hs38 ∧ l40.length = l25.length) := by
  refine fn_enterG 9 Tryz.func24 rfl Tryz.ntmps24 rfl ?_
  unfold mSlicesSortStableFunc at hm
  refine c_region ?_
  refine t_mv rfl rfl ?_
  refine t_mv rfl rfl ?_
  refine t_st rfl (st_len rfl sl22) ?_
  refine t_mv rfl rfl ?_
  obtain ⟨l42, hcl43, hm⟩ := bindS hm
  refine t_pullb 3 rfl ?_
  refine t_pullb 3 rfl ?_
  refine t_pullb 3 rfl ?_
  refine t_pullb 3 rfl ?_
  refine t_front3 [_, _, _, _] hs2 hs7 hs12 R rfl ?_
  refine t_front3 [_, _, _, _] hs12 hs2 hs7 R rfl ?_
  refine t_front3 [_, _, _, _] hs7 hs12 hs2 R rfl ?_
  refine t_out3 [_, _, _, _] [] hs2 hs7 hs12 R rfl ?_
  refine t_callG _ rfl call39 rfl (cSlicesStableCmpFunc _ _ (l25.length : Int) x20 x21 x22 x23 x24 l25 l26 l28 g16 g17 g18 g19 A3 c4 hs2 A8 c9 hs7 A13 c14 hs12 h5 h10 hnz27 h15 hnz29 l42 hcl43) ?_
  rintro _ b44 _ hle45 ⟨hs46, rfl, rfl, h47, h48⟩
  refine t_in3 [_, _, _, _] [] hs46 hs7 hs12 R rfl ?_
  refine t_nil ?_
  obtain rfl := some1 hm
  refine x_pullb 3 rfl ?_
  refine x_pullb 3 rfl ?_
  refine x_pullb 3 rfl ?_
  refine x_pullb 3 rfl ?_
  refine x_front3 [_, _, _, _] hs46 hs7 hs12 R rfl ?_
  refine x_front3 [_, _, _, _] hs12 hs46 hs7 R rfl ?_
  refine x_front3 [_, _, _, _] hs7 hs12 hs46 R rfl ?_
  exact endM hle45 rfl (.refl _) ⟨hs46, rfl, rfl, h47, (h48.trans rfl)⟩

set_option maxRecDepth 20000 in
theorem cBitsLen64 (b : Base) (R : Hp) (x1 : Int) (x36 : Int) (hm : mBitsLen64 x1 = some x36) :
    CallsG Tryz.prog 86 [.int .u64 (x1)] b (R) (fun v b' hp' => .int .i64 (x36) = v ∧ R = hp') := by
  refine fn_enterG 25 Tryz.func86 rfl Tryz.ntmps86 rfl ?_
  unfold mBitsLen64 at hm
  refine c_sr ?_
  refine t_as rfl rfl ?_
  refine t_ne ?_
  obtain ⟨⟨x41, x42⟩, hj43, hk43⟩ := bindS hm
  refine c_join (fun b39 e' hp' => [(0, .int .u64 (x41)), (2, .int .i64 (x42))] = e' ∧ R = hp' ∧ b.Le b39) ?_ ?_
  ·
   have hm := hj43
   refine c_sr ?_
   refine t_mv rfl rfl ?_
   refine t_st rfl (st_geq rfl rfl) ?_
   refine t_ne ?_
   refine c_cond _ rfl (fun hc44 => ?_) (fun hc44 => ?_)
   ·
    rw [if_pos (of_decide_eq_true hc44)] at hm
    refine c_sr ?_
    refine t_mv rfl rfl ?_
    obtain ⟨_, h45, hm⟩ := bindS hm
    have h45 := shN_some h45
    refine t_st rfl (st_shr rfl rfl h45) ?_
    refine t_as rfl rfl ?_
    refine t_ne ?_
    refine c_region ?_
    refine t_as rfl rfl ?_
    refine t_nil ?_
    obtain ⟨rfl, rfl⟩ := some2 hm
    exact x_join (e' := [(0, .int .u64 (shrI .u64 x1 32)), (2, .int .i64 (32))]) ⟨rfl, rfl, trivial⟩ (.refl _) ⟨rfl, rfl, (Base.Le.refl _)⟩
   ·
    rw [if_neg (of_decide_eq_false hc44)] at hm
    refine c_skip ?_
    obtain ⟨rfl, rfl⟩ := some2 hm
    exact x_join (e' := [(0, .int .u64 (x1)), (2, .int .i64 (0))]) ⟨rfl, rfl, trivial⟩ (.refl _) ⟨rfl, rfl, (Base.Le.refl _)⟩
  ·
   rintro b39 _ _ ⟨rfl, rfl, hle40⟩
   have hm := (unc2E hk43)
   obtain ⟨⟨x51, x52⟩, hj53, hk53⟩ := bindS hm
   refine c_join (fun b49 e' hp' => [(0, .int .u64 (x51)), (2, .int .i64 (x52))] = e' ∧ R = hp' ∧ b39.Le b49) ?_ ?_
   ·
    have hm := hj53
    refine c_sr ?_
    refine t_mv rfl rfl ?_
    refine t_st rfl (st_geq rfl rfl) ?_
    refine t_ne ?_
    refine c_cond _ rfl (fun hc54 => ?_) (fun hc54 => ?_)
    ·
     rw [if_pos (of_decide_eq_true hc54)] at hm
     refine c_sr ?_
     refine t_mv rfl rfl ?_
     obtain ⟨_, h55, hm⟩ := bindS hm
     have h55 := shN_some h55
     refine t_st rfl (st_shr rfl rfl h55) ?_
     refine t_as rfl rfl ?_
     refine t_ne ?_
     refine c_region ?_
     refine t_mv rfl rfl ?_
     obtain ⟨_, h56, hm⟩ := bindS hm
     have h56 := (chk_some h56).2
     refine t_st rfl (st_add rfl rfl h56) ?_
     refine t_as rfl rfl ?_
     refine t_nil ?_
     obtain ⟨rfl, rfl⟩ := some2 hm
     exact x_join (e' := [(0, .int .u64 (shrI .u64 x41 16)), (2, .int .i64 (x42 + 16))]) ⟨rfl, rfl, trivial⟩ (.refl _) ⟨rfl, rfl, (Base.Le.refl _)⟩
    ·
     rw [if_neg (of_decide_eq_false hc54)] at hm
     refine c_skip ?_
     obtain ⟨rfl, rfl⟩ := some2 hm
     exact x_join (e' := [(0, .int .u64 (x41)), (2, .int .i64 (x42))]) ⟨rfl, rfl, trivial⟩ (.refl _) ⟨rfl, rfl, (Base.Le.refl _)⟩
   ·
    rintro b49 _ _ ⟨rfl, rfl, hle50⟩
    have hm := (unc2E hk53)
    obtain ⟨⟨x62, x63⟩, hj64, hk64⟩ := bindS hm
    refine c_join (fun b60 e' hp' => [(0, .int .u64 (x62)), (2, .int .i64 (x63))] = e' ∧ R = hp' ∧ b49.Le b60) ?_ ?_
    ·
     have hm := hj64
     refine c_sr ?_
     refine t_mv rfl rfl ?_
     refine t_st rfl (st_geq rfl rfl) ?_
     refine t_ne ?_
     refine c_cond _ rfl (fun hc65 => ?_) (fun hc65 => ?_)
     ·
      rw [if_pos (of_decide_eq_true hc65)] at hm
      refine c_sr ?_
      refine t_mv rfl rfl ?_
      obtain ⟨_, h66, hm⟩ := bindS hm
      have h66 := shN_some h66
      refine t_st rfl (st_shr rfl rfl h66) ?_
      refine t_as rfl rfl ?_
      refine t_ne ?_
      refine c_region ?_
      refine t_mv rfl rfl ?_
      obtain ⟨_, h67, hm⟩ := bindS hm
      have h67 := (chk_some h67).2
      refine t_st rfl (st_add rfl rfl h67) ?_
      refine t_as rfl rfl ?_
      refine t_nil ?_
      obtain ⟨rfl, rfl⟩ := some2 hm
      exact x_join (e' := [(0, .int .u64 (shrI .u64 x51 8)), (2, .int .i64 (x52 + 8))]) ⟨rfl, rfl, trivial⟩ (.refl _) ⟨rfl, rfl, (Base.Le.refl _)⟩
     ·
      rw [if_neg (of_decide_eq_false hc65)] at hm
      refine c_skip ?_
      obtain ⟨rfl, rfl⟩ := some2 hm
      exact x_join (e' := [(0, .int .u64 (x51)), (2, .int .i64 (x52))]) ⟨rfl, rfl, trivial⟩ (.refl _) ⟨rfl, rfl, (Base.Le.refl _)⟩
    ·
     rintro b60 _ _ ⟨rfl, rfl, hle61⟩
     have hm := (unc2E hk64)
     refine c_sr ?_
     refine t_mv rfl rfl ?_
     refine t_mv rfl rfl ?_
     refine t_st rfl (st_conv rfl int144_u64 int5_u8) ?_
     obtain ⟨x68, h69, hm⟩ := bindS hm
     refine t_st rfl (st_sidx rfl rfl h69 str9) ?_
     refine t_st rfl (st_conv rfl int5_u8 int3_i64) ?_
     obtain ⟨_, h70, hm⟩ := bindS hm
     have h70 := (chk_some h70).2
     refine t_st rfl (st_add rfl rfl h70) ?_
     refine t_as rfl rfl ?_
     refine t_ne ?_
     refine c_ret ?_
     obtain rfl := some1 hm
     exact retM (rs := [.tmp 2]) [.int .i64 (x63 + (IntKind.wrap .i64 x68))] (hle40.trans (hle50.trans hle61)) (by decide) rfl ⟨rfl, trivial⟩ rfl (.refl _) ⟨rfl, rfl⟩

set_option maxRecDepth 20000 in
theorem cBitsLen (b : Base) (R : Hp) (x1 : Int) (x4 : Int) (hm : mBitsLen x1 = some x4) :
    CallsG Tryz.prog 57 [.int .u64 (x1)] b (R) (fun v b' hp' => .int .i64 (x4) = v ∧ R = hp') := by
  refine fn_enterG 8 Tryz.func57 rfl Tryz.ntmps57 rfl ?_
  unfold mBitsLen at hm
  refine c_sr ?_
  refine t_as rfl rfl ?_
  refine t_ne ?_
  refine c_seq ?_
  refine c_cond_f rfl ?_
  refine c_skip ?_
  refine x_then_normal ?_
  refine c_sr ?_
  refine t_mv rfl rfl ?_
  obtain ⟨x5, hcl6, hm⟩ := bindS hm
  refine t_do rfl (u_callW0 _ call86 rfl (fun w ho => cBitsLen64 _ [] x1 x5 hcl6) (fun _ _ _ h => h.2.symm)) ?_
  rintro _ _ ⟨⟨_, rfl, _⟩, rfl⟩
  refine t_as rfl rfl ?_
  refine t_ne ?_
  refine c_ret ?_
  obtain rfl := some1 hm
  exact retM (rs := [.tmp 2]) [.int .i64 (x5)] (Base.Le.refl _) (by decide) rfl ⟨rfl, trivial⟩ rfl (.refl _) ⟨rfl, rfl⟩

set_option maxRecDepth 20000 in
theorem cCmpLess (b : Base) (R : Hp) (x1 : Int) (x2 : Int) (x19 : Bool) (hm : mCmpLess x1 x2 = some x19) :
    CallsG Tryz.prog 82 [.int .i64 (x1), .int .i64 (x2)] b (R) (fun v b' hp' => .bool (x19) = v ∧ R = hp') := by
  refine fn_enterG 17 Tryz.func82 rfl Tryz.ntmps82 rfl ?_
  unfold mCmpLess at hm
  refine c_sr ?_
  refine t_as rfl rfl ?_
  refine t_ne ?_
  obtain ⟨x28, hj29, hk29⟩ := bindS hm
  refine c_join (fun b26 e' hp' => [(4, .bool (x28))] = e' ∧ R = hp' ∧ b.Le b26) ?_ ?_
  ·
   have hm := hj29
   refine c_region ?_
   refine t_mv rfl rfl ?_
   obtain ⟨x30, hcl31, hm⟩ := bindS hm
   refine t_do rfl (u_callW0 _ call40 rfl (fun w ho => cCmpIsNaN _ [] x1 x30 hcl31) (fun _ _ _ h => h.2.symm)) ?_
   rintro _ _ ⟨⟨_, rfl, _⟩, rfl⟩
   rcases Bool.eq_false_or_eq_true x30 with hc32 | hc32
   ·
    rw [if_pos hc32] at hm
    refine t_resp 6 rfl (v' := .bool true) (by rw [hc32] <;> rfl) ?_
    refine t_mv rfl rfl ?_
    refine t_yes 7 rfl rfl rfl ?_
    refine t_mv rfl rfl ?_
    refine t_yes 7 rfl rfl rfl ?_
    obtain ⟨x33, hcl34, hm⟩ := bindS hm
    refine t_do rfl (u_callW0 _ call40 rfl (fun w ho => cCmpIsNaN _ [] x2 x33 hcl34) (fun _ _ _ h => h.2.symm)) ?_
    rintro _ _ ⟨⟨_, rfl, _⟩, rfl⟩
    rcases Bool.eq_false_or_eq_true x33 with hc35 | hc35
    ·
     rw [if_pos hc35] at hm
     refine t_resp 9 rfl (v' := .bool true) (by rw [hc35] <;> rfl) ?_
     refine t_yes 7 rfl rfl rfl ?_
     refine t_st rfl (st_not_t rfl) ?_
     refine t_st rfl (st_pick_t rfl rfl) ?_
     refine t_mv rfl rfl ?_
     refine t_yes 12 rfl rfl rfl ?_
     refine t_mv rfl rfl ?_
     refine t_yes 12 rfl rfl rfl ?_
     refine t_mv rfl rfl ?_
     refine t_yes 12 rfl rfl rfl ?_
     refine t_st rfl (st_lss rfl rfl) ?_
     refine t_st rfl (st_pick_f rfl rfl) ?_
     refine t_as rfl rfl ?_
     refine t_nil ?_
     obtain rfl := some1 hm
     exact x_join (e' := [(4, .bool (decide (x1 < x2)))]) ⟨rfl, trivial⟩ (.refl _) ⟨rfl, rfl, (Base.Le.refl _)⟩
    ·
     rw [if_neg (fun hh => Bool.noConfusion (hh.symm.trans hc35))] at hm
     refine t_resp 9 rfl (v' := .bool false) (by rw [hc35] <;> rfl) ?_
     refine t_yes 7 rfl rfl rfl ?_
     refine t_st rfl (st_not_f rfl) ?_
     refine t_st rfl (st_pick_t rfl rfl) ?_
     refine t_mv rfl rfl ?_
     refine t_no 12 rfl rfl rfl rfl rfl ?_
     refine t_no 12 rfl rfl rfl rfl rfl ?_
     refine t_no 12 rfl rfl rfl rfl rfl ?_
     refine t_st rfl (st_pick_t rfl rfl) ?_
     refine t_as rfl rfl ?_
     refine t_nil ?_
     obtain rfl := some1 hm
     exact x_join (e' := [(4, .bool (true))]) ⟨rfl, trivial⟩ (.refl _) ⟨rfl, rfl, (Base.Le.refl _)⟩
   ·
    rw [if_neg (fun hh => Bool.noConfusion (hh.symm.trans hc32))] at hm
    refine t_resp 6 rfl (v' := .bool false) (by rw [hc32] <;> rfl) ?_
    refine t_mv rfl rfl ?_
    refine t_no 7 rfl rfl rfl rfl rfl ?_
    refine t_no 7 rfl rfl rfl rfl rfl ?_
    refine t_no 7 rfl rfl rfl rfl rfl ?_
    refine t_st rfl (st_pick_f rfl rfl) ?_
    refine t_mv rfl rfl ?_
    refine t_yes 12 rfl rfl rfl ?_
    refine t_mv rfl rfl ?_
    refine t_yes 12 rfl rfl rfl ?_
    refine t_mv rfl rfl ?_
    refine t_yes 12 rfl rfl rfl ?_
    refine t_st rfl (st_lss rfl rfl) ?_
    refine t_st rfl (st_pick_f rfl rfl) ?_
    refine t_as rfl rfl ?_
    refine t_nil ?_
    obtain rfl := some1 hm
    exact x_join (e' := [(4, .bool (decide (x1 < x2)))]) ⟨rfl, trivial⟩ (.refl _) ⟨rfl, rfl, (Base.Le.refl _)⟩
  ·
   rintro b26 _ _ ⟨rfl, rfl, hle27⟩
   have hm := hk29
   refine c_ret ?_
   obtain rfl := some1 hm
   exact retM (rs := [.tmp 4]) [.bool (x28)] hle27 (by decide) rfl ⟨rfl, trivial⟩ rfl (.refl _) ⟨rfl, rfl⟩

set_option maxRecDepth 20000 in
theorem cSlicesInsertionSortOrdered (b : Base) (R : Hp) (x6 : Int) (x7 : Int) (l8 : (List Int)) (A3 : Option Addr) (c4 : Nat) (hs2 : Hp) (h5 : OS 3 (OT.fr (RT.int .i64)) b.w (.slice A3 l8.length c4) l8 hs2) (l5368 : (List Int)) (hm : mSlicesInsertionSortOrdered x6 x7 l8 = some l5368) :
    CallsG Tryz.prog 76 [.slice A3 (l8).length c4, .int .i64 (x6), .int .i64 (x7)] b ((hs2 ++ R)) (fun v b' hp' => ∃ (hs5366 : Hp), .tuple #[] = v ∧ (hs5366 ++ R) = hp' ∧ OS 3 (OT.fr (RT.int .i64)) b'.w (.slice A3 l5368.length c4) l5368 hs5366 ∧ l5368.length = l8.length) := by
  refine fn_enterG 49 Tryz.func76 rfl Tryz.ntmps76 rfl ?_
  unfold mSlicesInsertionSortOrdered at hm
  refine c_sr ?_
  refine t_mv rfl rfl ?_
  obtain ⟨_, h5370, hm⟩ := bindS hm
  have h5370 := (chk_some h5370).2
  refine t_st rfl (st_add rfl rfl h5370) ?_
  refine t_as rfl rfl ?_
  refine t_ne ?_
  refine c_block ?_
  refine c_loopM (unc2 fun x8943 l8944 => fun b8938 e' hp' => ∃ (hs8941 : Hp), [(0, .slice A3 (l8944).length c4), (1, .int .i64 (x6)), (2, .int .i64 (x7)), (6, .int .i64 (x8943))] = e' ∧ (hs8941 ++ R) = hp' ∧ b.Le b8938 ∧ OS 3 (OT.fr (RT.int .i64)) b8938.w (.slice A3 l8944.length c4) l8944 hs8941 ∧ l8944.length = l8.length) hm (e' := [(0, .slice A3 (l8).length c4), (1, .int .i64 (x6)), (2, .int .i64 (x7)), (6, .int .i64 (x6 + 1))]) ⟨rfl, rfl, rfl, rfl, trivial⟩ (.refl _) ⟨hs2, rfl, rfl, (Base.Le.refl _), h5, rfl⟩ ?_
  rintro ⟨x8943, l8944⟩ b8938 _ _ oL5371 ⟨hs8941, rfl, rfl, hle8939, h8942, hln8945⟩ hstepL5371 houtL5371
  unfold mSlicesInsertionSortOrdered_L5371 at hstepL5371
  have hm := (unc2E hstepL5371)
  refine c_seq ?_
  refine c_sr ?_
  refine t_mv rfl rfl ?_
  refine t_mv rfl rfl ?_
  refine t_st rfl (st_lss rfl rfl) ?_
  refine t_ne ?_
  refine c_cond _ rfl (fun hc8946 => ?_) (fun hc8946 => ?_)
  ·
   rw [if_pos (of_decide_eq_true hc8946)] at hm
   refine c_skip ?_
   refine x_then_normal ?_
   obtain ⟨l9837, hj9839, hk9839⟩ := bindS hm
   refine c_join (fun b9832 e' hp' => ∃ (hs9835 : Hp), [(0, .slice A3 (l9837).length c4), (1, .int .i64 (x6)), (2, .int .i64 (x7)), (6, .int .i64 (x8943))] = e' ∧ (hs9835 ++ R) = hp' ∧ b8938.Le b9832 ∧ OS 3 (OT.fr (RT.int .i64)) b9832.w (.slice A3 l9837.length c4) l9837 hs9835 ∧ l9837.length = l8.length) ?_ ?_
   ·
    have hm := hj9839
    refine c_block ?_
    refine c_sr ?_
    refine t_mv rfl rfl ?_
    refine t_as rfl rfl ?_
    refine t_ne ?_
    refine c_block ?_
    refine c_loopM (unc2 fun x10432 l10433 => fun b10427 e' hp' => ∃ (hs10430 : Hp), [(0, .slice A3 (l10433).length c4), (1, .int .i64 (x6)), (2, .int .i64 (x7)), (6, .int .i64 (x8943)), (7, .int .i64 (x10432))] = e' ∧ (hs10430 ++ R) = hp' ∧ b8938.Le b10427 ∧ OS 3 (OT.fr (RT.int .i64)) b10427.w (.slice A3 l10433.length c4) l10433 hs10430 ∧ l10433.length = l8.length) hm (e' := [(0, .slice A3 (l8944).length c4), (1, .int .i64 (x6)), (2, .int .i64 (x7)), (6, .int .i64 (x8943)), (7, .int .i64 (x8943))]) ⟨rfl, rfl, rfl, rfl, rfl, trivial⟩ (.refl _) ⟨hs8941, rfl, rfl, (Base.Le.refl _), h8942, hln8945⟩ ?_
    rintro ⟨x10432, l10433⟩ b10427 _ _ oL9840 ⟨hs10430, rfl, rfl, hle10428, h10431, hln10434⟩ hstepL9840 houtL9840
    unfold mSlicesInsertionSortOrdered_L9840 at hstepL9840
    have hm := (unc2E hstepL9840)
    refine c_seq ?_
    obtain ⟨x10509, hj10510, hk10510⟩ := bindS hm
    refine c_join (fun b10507 e' hp' => [(0, .slice A3 (l10433).length c4), (1, .int .i64 (x6)), (2, .int .i64 (x7)), (6, .int .i64 (x8943)), (7, .int .i64 (x10432)), (30, .bool (x10509))] = e' ∧ (hs10430 ++ R) = hp' ∧ b10427.Le b10507) ?_ ?_
    ·
     have hm := hj10510
     by_cases hc10547 : x6 < x10432
     ·
      rw [if_pos hc10547] at hm
      obtain ⟨x10548, h10549, hm⟩ := bindS hm
      obtain ⟨_, h10564, hm⟩ := bindS hm
      obtain ⟨x10565, h10566, hm⟩ := bindS hm
      obtain ⟨x10581, hcl10582, hm⟩ := bindS hm
      refine D_drawI mixed (.refl _) ?_
      refine E_s0 0 rfl (st_move rfl) ?_
      refine E_s0 1 rfl (st_move rfl) ?_
      refine E_s0 2 rfl (st_gtr_t rfl rfl hc10547) ?_
      refine E_s0 3 rfl (st_move rfl) ?_
      refine E_y0 4 19 rfl (st_move rfl) ?_
      refine E_y0 5 19 rfl (st_move rfl) ?_
      obtain ⟨j10550, hj10551, hx10552⟩ := idx_some h10549
      obtain ⟨cs10553, hs10558, P10559, P10560, hq10561, hr10554, hcs10555, hA10556, hlt10557, hb10562, hho10563⟩ := OS.get (sz := 1) rfl (by decide) h10431 hx10552
      obtain ⟨rfl, rfl⟩ := hr10554
      refine E_y0 6 19 rfl (st_index_old j10550 rfl rfl hj10551 hlt10557 hA10556 sl22) ?_
      refine E_yes 7 19 rfl (st_load_rd rfl one3 (fun w ho => hcs10555 w _ ho (List.sublist_append_left _ _) 0 _ rfl)) ?_
      refine E_y0 8 19 rfl (st_move rfl) ?_
      refine E_y0 9 19 rfl (st_move rfl) ?_
      have h10564 := (chk_some h10564).2
      refine E_y0 10 19 rfl (st_sub rfl rfl h10564) ?_
      obtain ⟨j10567, hj10568, hx10569⟩ := idx_some h10566
      obtain ⟨cs10570, hs10575, P10576, P10577, hq10578, hr10571, hcs10572, hA10573, hlt10574, hb10579, hho10580⟩ := OS.get (sz := 1) rfl (by decide) h10431 hx10569
      obtain ⟨rfl, rfl⟩ := hr10571
      refine E_y0 11 19 rfl (st_index_old j10567 rfl rfl hj10568 hlt10574 hA10573 sl22) ?_
      refine E_yes 12 19 rfl (st_load_rd rfl one3 (fun w ho => hcs10572 w _ ho (List.sublist_append_left _ _) 0 _ rfl)) ?_
      refine E_out ?_
      refine D_all [13] (by kernel_rfl) rfl ?_
      refine R_doY (Base.Le.refl _) rfl rfl 19 rfl rfl rfl (u_callW0 _ call82 rfl (fun w ho => cCmpLess _ [] x10548 x10565 x10581 hcl10582) (fun _ _ _ h => h.2.symm)) ?_ ?_
      ·
       rintro _ _ ⟨⟨_, rfl, _⟩, rfl⟩
       refine ⟨.inr (.refl _), ?_⟩
       refine E_in (Base.Le.refl _) (.refl _) ?_
       refine E_s0 14 rfl (st_pick_t rfl rfl) ?_
       refine E_out ?_
       refine D_done (by kernel_rfl) ?_
       obtain rfl := some1 hm
       exact x_join (e' := [(0, .slice A3 (l10433).length c4), (1, .int .i64 (x6)), (2, .int .i64 (x7)), (6, .int .i64 (x8943)), (7, .int .i64 (x10432)), (30, .bool (x10581))]) ⟨rfl, rfl, rfl, rfl, rfl, rfl, trivial⟩ (.refl _) ⟨rfl, rfl, (Base.Le.refl _)⟩
      exact R_nil
     ·
      rw [if_neg hc10547] at hm
      refine D_drawI mixed (.refl _) ?_
      refine E_s0 0 rfl (st_move rfl) ?_
      refine E_s0 1 rfl (st_move rfl) ?_
      refine E_s0 2 rfl (st_gtr_f rfl rfl hc10547) ?_
      refine E_s0 3 rfl (st_move rfl) ?_
      refine E_no 4 19 rfl rfl rfl ?_
      refine E_no 5 19 rfl rfl rfl ?_
      refine E_no 6 19 rfl rfl rfl ?_
      refine E_no 7 19 rfl rfl rfl ?_
      refine E_no 8 19 rfl rfl rfl ?_
      refine E_no 9 19 rfl rfl rfl ?_
      refine E_no 10 19 rfl rfl rfl ?_
      refine E_no 11 19 rfl rfl rfl ?_
      refine E_no 12 19 rfl rfl rfl ?_
      refine E_no 13 19 rfl rfl rfl ?_
      refine E_s0 14 rfl (st_pick_f rfl rfl) ?_
      refine E_out ?_
      refine D_done (by kernel_rfl) ?_
      obtain rfl := some1 hm
      exact x_join (e' := [(0, .slice A3 (l10433).length c4), (1, .int .i64 (x6)), (2, .int .i64 (x7)), (6, .int .i64 (x8943)), (7, .int .i64 (x10432)), (30, .bool (false))]) ⟨rfl, rfl, rfl, rfl, rfl, rfl, trivial⟩ (.refl _) ⟨rfl, rfl, (Base.Le.refl _)⟩
    ·
     rintro b10507 _ _ ⟨rfl, rfl, hle10508⟩
     have hm := hk10510
     refine c_cond _ rfl (fun hc10583 => ?_) (fun hc10583 => ?_)
     ·
      rw [if_pos hc10583] at hm
      refine c_skip ?_
      refine x_then_normal ?_
      refine c_seq ?_
      refine c_block ?_
      obtain ⟨_, h10654, hm⟩ := bindS hm
      obtain ⟨_, h10655, hm⟩ := bindS hm
      obtain ⟨x10656, h10657, hm⟩ := bindS hm
      obtain ⟨x10672, h10673, hm⟩ := bindS hm
      obtain ⟨x10688, h10689, hm⟩ := bindS hm
      obtain ⟨x10706, h10707, hm⟩ := bindS hm
      refine D_drawI mixed (.refl _) ?_
      refine E_s0 0 rfl (st_move rfl) ?_
      refine E_s0 1 rfl (st_move rfl) ?_
      refine E_s0 2 rfl (st_move rfl) ?_
      refine E_s0 3 rfl (st_move rfl) ?_
      have h10654 := (chk_some h10654).2
      refine E_s0 4 rfl (st_sub rfl rfl h10654) ?_
      refine E_s0 5 rfl (st_move rfl) ?_
      refine E_s0 6 rfl (st_move rfl) ?_
      have h10655 := (chk_some h10655).2
      refine E_s0 7 rfl (st_sub rfl rfl h10655) ?_
      obtain ⟨j10658, hj10659, hx10660⟩ := idx_some h10657
      obtain ⟨cs10661, hs10666, P10667, P10668, hq10669, hr10662, hcs10663, hA10664, hlt10665, hb10670, hho10671⟩ := OS.get (sz := 1) rfl (by decide) (h10431.le hle10508) hx10660
      obtain ⟨rfl, rfl⟩ := hr10662
      refine E_s0 8 rfl (st_index_old j10658 rfl rfl hj10659 hlt10665 hA10664 sl22) ?_
      refine E_st 9 rfl (st_load_rd rfl one3 (fun w ho => hcs10663 w _ ho (List.sublist_append_left _ _) 0 _ rfl)) ?_
      refine E_s0 10 rfl (st_move rfl) ?_
      refine E_s0 11 rfl (st_move rfl) ?_
      obtain ⟨j10674, hj10675, hx10676⟩ := idx_some h10673
      obtain ⟨cs10677, hs10682, P10683, P10684, hq10685, hr10678, hcs10679, hA10680, hlt10681, hb10686, hho10687⟩ := OS.get (sz := 1) rfl (by decide) (h10431.le hle10508) hx10676
      obtain ⟨rfl, rfl⟩ := hr10678
      refine E_s0 12 rfl (st_index_old j10674 rfl rfl hj10675 hlt10681 hA10680 sl22) ?_
      refine E_st 13 rfl (st_load_rd rfl one3 (fun w ho => hcs10679 w _ ho (List.sublist_append_left _ _) 0 _ rfl)) ?_
      obtain ⟨j10690, hj10691, hx10692⟩ := idx_some h10689
      obtain ⟨cs10693, hs10698, P10699, P10700, hq10701, hr10694, hcs10695, hA10696, hlt10697, hb10702, hho10703⟩ := OS.get (sz := 1) rfl (by decide) (h10431.le hle10508) hx10692
      obtain ⟨rfl, rfl⟩ := hr10694
      refine E_s0 14 rfl (st_index_old j10690 rfl rfl hj10691 hlt10697 hA10696 sl22) ?_
      refine E_out ?_
      refine D_all [15] (by kernel_rfl) rfl ?_
      refine R_do (Base.Le.refl _) rfl rfl (u_putOS hj10691 (sz := 1) (a' := x10656) rfl [] R 0 1 [.int .i64 (x10656)] rfl (h10431.le hle10508) hx10692 rfl rfl rfl siz3 rfl (mem_c rfl mem_n) (fun cs hsj hh => by obtain ⟨rfl, rfl⟩ := hh; exact ⟨by decide, rfl, rfl⟩)) ?_ ?_
      ·
       rintro _ _ ⟨hs10704, rfl, h10705⟩
       refine ⟨.inl (by kernel_rfl), ?_⟩
       refine d_resp 0 rfl (v' := .slice A3 (put l10433 x10432 x10656).length c4) (by simp only [put_length]) ?_
       refine d_resp 35 rfl (v' := .slice A3 (put l10433 x10432 x10656).length c4) (by simp only [put_length]) ?_
       obtain ⟨j10708, hj10709, hx10710⟩ := idx_some h10707
       obtain ⟨cs10711, hs10716, P10717, P10718, hq10719, hr10712, hcs10713, hA10714, hlt10715, hb10720, hho10721⟩ := OS.get (sz := 1) rfl (by decide) h10705 hx10710
       obtain ⟨rfl, rfl⟩ := hr10712
       refine E_il (Base.Le.refl _) ?_
       refine E_s0 16 rfl (st_index_old j10708 rfl rfl hj10709 hlt10715 hA10714 sl22) ?_
       refine E_out ?_
       refine D_all [17] (by kernel_rfl) rfl ?_
       refine R_do (Base.Le.refl _) rfl rfl (u_putOS hj10709 (sz := 1) (a' := x10672) rfl [] R 0 1 [.int .i64 (x10672)] rfl h10705 hx10710 rfl rfl rfl siz3 rfl (mem_c rfl mem_n) (fun cs hsj hh => by obtain ⟨rfl, rfl⟩ := hh; exact ⟨by decide, rfl, rfl⟩)) ?_ ?_
       ·
        rintro _ _ ⟨hs10722, rfl, h10723⟩
        refine ⟨.inl (by kernel_rfl), ?_⟩
        refine d_resp 0 rfl (v' := .slice A3 (put (put l10433 x10432 x10656) (x10432 - 1) x10672).length c4) (by simp only [put_length]) ?_
        refine D_done (by kernel_rfl) ?_
        refine x_block_normal ?_
        refine x_then_normal ?_
        refine c_region ?_
        refine t_mv rfl rfl ?_
        obtain ⟨_, h10724, hm⟩ := bindS hm
        have h10724 := (chk_some h10724).2
        refine t_st rfl (st_sub rfl rfl h10724) ?_
        refine t_as rfl rfl ?_
        refine t_nil ?_
        exact x_againM (x10432 - 1, put (put l10433 x10432 x10656) (x10432 - 1) x10672) (Option.some.inj hm).symm (e' := [(0, .slice A3 (put (put l10433 x10432 x10656) (x10432 - 1) x10672).length c4), (1, .int .i64 (x6)), (2, .int .i64 (x7)), (6, .int .i64 (x8943)), (7, .int .i64 (x10432 - 1))]) ⟨rfl, rfl, rfl, rfl, rfl, trivial⟩ (.refl _) ⟨hs10722, rfl, rfl, ((hle10428.trans hle10508)), h10723, ((put_length _ _ _).trans ((put_length _ _ _).trans hln10434))⟩
       exact R_nil
      exact R_nil
     ·
      rw [if_neg (fun hh => Bool.noConfusion (hh.symm.trans hc10583))] at hm
      refine c_exit ?_
      refine x_then_exit ?_
      refine x_then_exit ?_
      refine x_block_out ?_
      have hm := congrArg some (houtL9840 _ (Option.some.inj hm).symm)
      refine x_block_normal ?_
      obtain rfl := some1 hm
      exact x_join (e' := [(0, .slice A3 (l10433).length c4), (1, .int .i64 (x6)), (2, .int .i64 (x7)), (6, .int .i64 (x8943))]) ⟨rfl, rfl, rfl, rfl, trivial⟩ (.refl _) ⟨hs10430, rfl, rfl, (hle10428.trans hle10508), (h10431.le hle10508), hln10434⟩
   ·
    rintro b9832 _ _ ⟨hs9835, rfl, rfl, hle9833, h9836, hln9838⟩
    have hm := hk9839
    refine c_region ?_
    refine t_mv rfl rfl ?_
    obtain ⟨_, h10725, hm⟩ := bindS hm
    have h10725 := (chk_some h10725).2
    refine t_st rfl (st_add rfl rfl h10725) ?_
    refine t_as rfl rfl ?_
    refine t_nil ?_
    exact x_againM (x8943 + 1, l9837) (Option.some.inj hm).symm (e' := [(0, .slice A3 (l9837).length c4), (1, .int .i64 (x6)), (2, .int .i64 (x7)), (6, .int .i64 (x8943 + 1))]) ⟨rfl, rfl, rfl, rfl, trivial⟩ (.refl _) ⟨hs9835, rfl, rfl, ((hle8939.trans hle9833)), h9836, hln9838⟩
  ·
   rw [if_neg (of_decide_eq_false hc8946)] at hm
   refine c_exit ?_
   refine x_then_exit ?_
   refine x_then_exit ?_
   refine x_block_out ?_
   have hm := congrArg some (houtL5371 _ (Option.some.inj hm).symm)
   obtain rfl := some1 hm
   exact endM hle8939 rfl (.refl _) ⟨hs8941, rfl, rfl, h8942, hln8945⟩

set_option maxRecDepth 20000 in
theorem cSlicesPdqsortOrdered (b : Base) (R : Hp) (x6 : Int) (x7 : Int) (x8 : Int) (l9 : (List Int)) (A3 : Option Addr) (c4 : Nat) (hs2 : Hp) (h5 : OS 3 (OT.fr (RT.int .i64)) b.w (.slice A3 l9.length c4) l9 hs2) (l34 : (List Int)) (hm : mSlicesPdqsortOrdered x6 x7 x8 l9 = some l34) :
    CallsG Tryz.prog 56 [.slice A3 (l9).length c4, .int .i64 (x6), .int .i64 (x7), .int .i64 (x8)] b ((hs2 ++ R)) (fun v b' hp' => ∃ (hs32 : Hp), .tuple #[] = v ∧ (hs32 ++ R) = hp' ∧ OS 3 (OT.fr (RT.int .i64)) b'.w (.slice A3 l34.length c4) l34 hs32 ∧ l34.length = l9.length) := by
  refine fn_enterG 134 Tryz.func56 rfl Tryz.ntmps56 rfl ?_
  unfold mSlicesPdqsortOrdered at hm
  refine c_sr ?_
  refine t_as rfl rfl ?_
  refine t_ne ?_
  refine c_sr ?_
  refine t_as rfl rfl ?_
  refine t_ne ?_
  refine c_block ?_
  refine c_loopM (fun _ => fun b46 e' hp' => [(0, .slice A3 (l9).length c4), (1, .int .i64 (x6)), (2, .int .i64 (x7)), (3, .int .i64 (x8)), (8, .bool (true)), (9, .bool (true))] = e' ∧ (hs2 ++ R) = hp' ∧ b.Le b46) hm (e' := [(0, .slice A3 (l9).length c4), (1, .int .i64 (x6)), (2, .int .i64 (x7)), (3, .int .i64 (x8)), (8, .bool (true)), (9, .bool (true))]) ⟨rfl, rfl, rfl, rfl, rfl, rfl, trivial⟩ (.refl _) ⟨rfl, rfl, (Base.Le.refl _)⟩ ?_
  rintro _ b46 _ _ oL36 ⟨rfl, rfl, hle47⟩ hstepL36 houtL36
  unfold mSlicesPdqsortOrdered_L36 at hstepL36
  have hm := hstepL36
  refine c_block ?_
  refine c_sr ?_
  refine t_mv rfl rfl ?_
  refine t_mv rfl rfl ?_
  obtain ⟨_, h48, hm⟩ := bindS hm
  have h48 := (chk_some h48).2
  refine t_st rfl (st_sub rfl rfl h48) ?_
  refine t_as rfl rfl ?_
  refine t_ne ?_
  refine c_seq ?_
  refine c_sr ?_
  refine t_mv rfl rfl ?_
  refine t_st rfl (st_leq rfl rfl) ?_
  refine t_ne ?_
  refine c_cond _ rfl (fun hc49 => ?_) (fun hc49 => ?_)
  ·
   rw [if_pos (of_decide_eq_true hc49)] at hm
   refine c_sr ?_
   refine t_mv rfl rfl ?_
   refine t_mv rfl rfl ?_
   refine t_mv rfl rfl ?_
   obtain ⟨l50, hcl51, hm⟩ := bindS hm
   refine t_out1 [] [] hs2 R rfl ?_
   refine t_callG _ rfl call76 rfl (cSlicesInsertionSortOrdered _ _ x6 x7 l9 A3 c4 hs2 (h5.le hle47) l50 hcl51) ?_
   rintro _ b52 _ hle53 ⟨hs54, rfl, rfl, h55, h56⟩
   refine t_in1 [] [] hs54 R rfl ?_
   refine t_ne ?_
   refine c_ret ?_
   refine x_then_ret ?_
   refine x_block_ret ?_
   refine x_then_ret ?_
   refine x_block_ret ?_
   have hm := congrArg some (houtL36 _ (Option.some.inj hm).symm)
   obtain rfl := some1 hm
   exact retM (rs := []) [] (hle47.trans hle53) (by decide) rfl trivial rfl (.refl _) ⟨hs54, rfl, rfl, h55, (h56.trans rfl)⟩
  ·
   rw [if_neg (of_decide_eq_false hc49)] at hm
   refine c_skip ?_
   refine x_then_normal ?_
   refine c_seq ?_
   refine c_seq ?_
   cases hm

set_option maxRecDepth 20000 in
theorem cSlicesSort (b : Base) (R : Hp) (l6 : (List Int)) (A3 : Option Addr) (c4 : Nat) (hs2 : Hp) (h5 : OS 3 (OT.fr (RT.int .i64)) b.w (.slice A3 l6.length c4) l6 hs2) (l19 : (List Int)) (hm : mSlicesSort l6 = some l19) :
    CallsG Tryz.prog 38 [.slice A3 (l6).length c4] b ((hs2 ++ R)) (fun v b' hp' => ∃ (hs17 : Hp), .tuple #[] = v ∧ (hs17 ++ R) = hp' ∧ OS 3 (OT.fr (RT.int .i64)) b'.w (.slice A3 l19.length c4) l19 hs17 ∧ l19.length = l6.length) := by
  refine fn_enterG 11 Tryz.func38 rfl Tryz.ntmps38 rfl ?_
  unfold mSlicesSort at hm
  refine c_sr ?_
  refine t_mv rfl rfl ?_
  refine t_st rfl (st_len rfl sl22) ?_
  refine t_as rfl rfl ?_
  refine t_ne ?_
  refine c_region ?_
  refine t_mv rfl rfl ?_
  refine t_mv rfl rfl ?_
  refine t_mv rfl rfl ?_
  refine t_st rfl (st_conv rfl int3_i64 int110_u64) ?_
  obtain ⟨x21, hcl22, hm⟩ := bindS hm
  refine t_do rfl (u_callW0 _ call57 rfl (fun w ho => cBitsLen _ [] (IntKind.wrap .u64 (l6.length : Int)) x21 hcl22) (fun _ _ _ h => h.2.symm)) ?_
  rintro _ _ ⟨⟨_, rfl, _⟩, rfl⟩
  obtain ⟨l23, hcl24, hm⟩ := bindS hm
  refine t_out1 [] [] hs2 R rfl ?_
  refine t_callG _ rfl call56 rfl (cSlicesPdqsortOrdered _ _ 0 (l6.length : Int) x21 l6 A3 c4 hs2 h5 l23 hcl24) ?_
  rintro _ b25 _ hle26 ⟨hs27, rfl, rfl, h28, h29⟩
  refine t_in1 [] [] hs27 R rfl ?_
  refine t_nil ?_
  obtain rfl := some1 hm
  exact endM hle26 rfl (.refl _) ⟨hs27, rfl, rfl, h28, (h29.trans rfl)⟩

end Go.Proofs.YthcgoaejnpelbaaGreatDoor
