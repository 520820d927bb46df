/- The models of the functions, as the extractor printed them. -/
import Derived.Test.YtdphlkddelnaiaaXE
set_option linter.unusedVariables false
set_option linter.unusedSimpArgs false
namespace Go.Proofs.Ytdphlkddelnaiaa
open Go.RowKit Go.Fp

structure PlanRule where
  From : Int
  To : Int
  Min : Int
  Max : Int
  Weight : Int
  deriving DecidableEq
def rPlanRule : RT PlanRule := (RT.cat (RT.on (RT.int .i64) PlanRule.From) (RT.cat (RT.on (RT.int .i64) PlanRule.To) (RT.cat (RT.on (RT.int .i64) PlanRule.Min) (RT.cat (RT.on (RT.int .i64) PlanRule.Max) (RT.on (RT.int .i64) PlanRule.Weight)))))
structure PlanPeriodic where
  Period : Int
  Events : Int
  Rules : (List PlanRule)
def rPlanPeriodic : RT PlanPeriodic := (RT.cat (RT.on (RT.int .i64) PlanPeriodic.Period) (RT.cat (RT.on (RT.int .i64) PlanPeriodic.Events) (RT.on (RT.list rPlanRule) PlanPeriodic.Rules)))

/-- fishplate/plan.within -/
noncomputable def mPlanWithin (x1 : Int) (x2 : Int) (x3 : Int) : Option (Bool) :=
  (if x2 ≤ x1 then (
  some (decide (x1 ≤ x3)))
  else (
  some false)).bind (fun x14 =>
  some x14)

noncomputable def mPlanCheckPeriodic_L164 (s1 : PlanPeriodic) (k224 : Nat) : (Unit) → Option ((Unit) ⊕ (Int)) := fun _ =>
  (idx s1.Rules (k224 : Int)).bind fun x228 =>
  ((chk (s1.Events - 1)).bind fun _ =>
  (mPlanWithin x228.From 0 (s1.Events - 1)).bind fun x251 =>
  if x251 = true then (
  (chk (s1.Events - 1)).bind fun _ =>
  (mPlanWithin x228.To 0 (s1.Events - 1)).bind fun x255 =>
  some (!x255))
  else (
  some true)).bind (fun x248 =>
  if x248 = true then (
  some (.inr 3))
  else (
  if x228.From = x228.To then (
  some (.inr 1))
  else (
  ((mPlanWithin x228.Min 0 3600).bind fun x275 =>
  if x275 = true then (
  (chk (x228.Min + s1.Period)).bind fun _ =>
  (chk ((x228.Min + s1.Period) - 1)).bind fun _ =>
  (mPlanWithin x228.Max x228.Min ((x228.Min + s1.Period) - 1)).bind fun x280 =>
  if x280 = true then (
  (mPlanWithin x228.Weight 0 1000).bind fun x283 =>
  some (!x283))
  else (
  some true))
  else (
  some true)).bind (fun x273 =>
  if x273 = true then (
  some (.inr 2))
  else (
  some (.inl ()))))))

/-- fishplate/plan.CheckPeriodic -/
noncomputable def mPlanCheckPeriodic (s1 : PlanPeriodic) : Option (Int) :=
  ((mPlanWithin s1.Period 2 3600).bind fun x157 =>
  if x157 = true then (
  (mPlanWithin s1.Events 1 8).bind fun x160 =>
  some (!x160))
  else (
  some true)).bind (fun x155 =>
  if x155 = true then (
  some 2)
  else (
  if 40 < (s1.Rules.length : Int) then (
  some 4)
  else (
  (forM (mPlanCheckPeriodic_L164 s1) s1.Rules.length 0 ()).bind fun t => Sum.elim (fun _ =>
  some 0) (fun q => some q) t)))

noncomputable def mPlanCheckTimes_L58 (l8 : (List Int)) (s1 : PlanPeriodic) (k76 : Nat) : (Unit) → Option ((Unit) ⊕ (Int)) := fun _ =>
  (idx l8 (k76 : Int)).bind fun x80 =>
  (chk (s1.Period - 1)).bind fun _ =>
  (mPlanWithin x80 0 (s1.Period - 1)).bind fun x91 =>
  if x91 = true then (
  some (.inl ()))
  else (
  some (.inr 2))

/-- fishplate/plan.checkTimes -/
noncomputable def mPlanCheckTimes (s1 : PlanPeriodic) (l8 : (List Int)) : Option (Int) :=
  (mPlanCheckPeriodic s1).bind fun x54 =>
  if x54 ≠ 0 then (
  some x54)
  else (
  if (l8.length : Int) ≠ s1.Events then (
  some 1)
  else (
  (forM (mPlanCheckTimes_L58 l8 s1) l8.length 0 ()).bind fun t => Sum.elim (fun _ =>
  some 0) (fun q => some q) t))

/-- fishplate/plan.gap -/
noncomputable def mPlanGap_2 (s1 : PlanPeriodic) (s5 : PlanRule) (l9 : (List Int)) : Option (Int) :=
  (idx l9 s5.To).bind fun x93 =>
  (idx l9 s5.From).bind fun x103 =>
  (chk (x93 - x103)).bind fun _ =>
  (chk ((x93 - x103) - s5.Min)).bind fun _ =>
  (ne0 s1.Period).bind fun _ =>
  (if (Int.tmod ((x93 - x103) - s5.Min) s1.Period) < 0 then (
  (chk ((Int.tmod ((x93 - x103) - s5.Min) s1.Period) + s1.Period)).bind fun _ =>
  some ((Int.tmod ((x93 - x103) - s5.Min) s1.Period) + s1.Period))
  else (
  some (Int.tmod ((x93 - x103) - s5.Min) s1.Period))).bind (fun x120 =>
  (chk (s5.Min + x120)).bind fun _ =>
  some (s5.Min + x120))

/-- fishplate/plan.Gap -/
noncomputable def mPlanGap (s1 : PlanPeriodic) (x5 : Int) (l9 : (List Int)) : Option (Int × Int) :=
  (mPlanCheckTimes s1 l9).bind fun x45 =>
  if x45 ≠ 0 then (
  some (0, x45))
  else (
  (chk ((s1.Rules.length : Int) - 1)).bind fun _ =>
  (mPlanWithin x5 0 ((s1.Rules.length : Int) - 1)).bind fun x49 =>
  if x49 = true then (
  (idx s1.Rules x5).bind fun x64 =>
  (mPlanGap_2 s1 x64 l9).bind fun x74 =>
  some (x74, 0))
  else (
  some (0, 3)))

/-- fishplate/fishkeep2.awakePlan -/
noncomputable def mFishkeep2AwakePlan : Option (Bool) :=
  (mPlanGap (⟨0, 0, []⟩ : PlanPeriodic) (-1) []).bind (unc2 fun _ x6 =>
  some (decide (x6 ≠ 0)))

/-- math/bits.Mul64 -/
noncomputable def mBitsMul64 (x1 : Int) (x2 : Int) : Option (Int × Int) :=
  (shN 32).bind fun _ =>
  (shN 32).bind fun _ =>
  (shN 32).bind fun _ =>
  (shN 32).bind fun _ =>
  (shN 32).bind fun _ =>
  some (IntKind.wrap .u64 ((IntKind.wrap .u64 ((IntKind.wrap .u64 ((shrI .u64 x1 32) * (shrI .u64 x2 32))) + (shrI .u64 (IntKind.wrap .u64 ((IntKind.wrap .u64 ((shrI .u64 x1 32) * (andI .u64 x2 4294967295))) + (shrI .u64 (IntKind.wrap .u64 ((andI .u64 x1 4294967295) * (andI .u64 x2 4294967295))) 32))) 32))) + (shrI .u64 (IntKind.wrap .u64 ((andI .u64 (IntKind.wrap .u64 ((IntKind.wrap .u64 ((shrI .u64 x1 32) * (andI .u64 x2 4294967295))) + (shrI .u64 (IntKind.wrap .u64 ((andI .u64 x1 4294967295) * (andI .u64 x2 4294967295))) 32))) 4294967295) + (IntKind.wrap .u64 ((andI .u64 x1 4294967295) * (shrI .u64 x2 32))))) 32)), IntKind.wrap .u64 (x1 * x2))

/-- math/bits.Mul -/
noncomputable def mBitsMul (x1 : Int) (x2 : Int) : Option (Int × Int) :=
  (mBitsMul64 x1 x2).bind (unc2 fun x8 x9 =>
  some (x8, x9))

noncomputable def mSlicesRepeat_L612  : (Int × (List Bool)) → Option ((Int × (List Bool)) ⊕ ((List Bool))) := unc2 fun x734 l735 =>
  if x734 < (l735.length : Int) then (
  (cutS l735 x734 (l735.length : Int)).bind fun _ =>
  (cutS l735 0 x734).bind fun l775 =>
  (chk (x734 + (cpyN x734 (l735.length : Int) l775))).bind fun _ =>
  some (.inl (x734 + (cpyN x734 (l735.length : Int) l775), cpyI l735 x734 (l735.length : Int) l775)))
  else (
  some (.inr l735))

/-- slices.Repeat[[]bool,bool] -/
noncomputable def mSlicesRepeat (l4 : (List Bool)) (x5 : Int) : Option ((List Bool)) :=
  if x5 < 0 then (
  none)
  else (
  (mBitsMul (IntKind.wrap .u64 (l4.length : Int)) (IntKind.wrap .u64 x5)).bind (unc2 fun x403 x404 =>
  (if 0 < x403 then (
  some true)
  else (
  some (decide (9223372036854775807 < x404)))).bind (fun x409 =>
  if x409 = true then (
  none)
  else (
  (mkLen 1 (IntKind.wrap .i64 x404)).bind fun m413 =>
  (loopM mSlicesRepeat_L612 (cpyN 0 ((List.replicate m413 (false : Bool)).length : Int) l4, cpyI (List.replicate m413 (false : Bool)) 0 ((List.replicate m413 (false : Bool)).length : Int) l4)).bind (fun l609 =>
  some l609)))))

/-- fishplate/plan.newSearch -/
noncomputable def mPlanNewSearch (s1 : PlanPeriodic) : Option (Int × Int × (List PlanRule) × (List Int) × (List Bool)) :=
  ((mkLen 8 (s1.Rules.length : Int)).bind fun m184 =>
  (mSlicesRepeat [true] (s1.Rules.length : Int)).bind fun l193 =>
  some (List.replicate m184 (0 : Int), l193)).bind (unc2 fun l163 l164 =>
  some (s1.Period, s1.Events, s1.Rules, l163, l164))

noncomputable def mPlanSearchStart_L899 (x12 : Int) (k896 : Nat) (k999 : Nat) : ((List (List Int))) → Option ((List (List Int))) := fun l996 =>
  if (k896 : Int) ≠ (k999 : Int) then (
  (chk (x12 - 1)).bind fun _ =>
  (idx l996 (k896 : Int)).bind fun x1026 =>
  (idx x1026 (k999 : Int)).bind fun _ =>
  some (put l996 (k896 : Int) (put x1026 (k999 : Int) (x12 - 1))))
  else (
  some l996)

noncomputable def mPlanSearchStart_L548 (x12 : Int) (x13 : Int) (k896 : Nat) : ((List (List Int))) → Option ((List (List Int))) := fun l893 =>
  (chk x13).bind fun _ =>
  (forS (mPlanSearchStart_L899 x12 k896) ((x13).toNat) 0 l893).bind (fun l996 =>
  (idx l996 (k896 : Int)).bind fun x1047 =>
  (idx x1047 0).bind fun _ =>
  some (put l996 (k896 : Int) (put x1047 0 0)))

/-- (*fishplate/plan.search).start -/
noncomputable def mPlanSearchStart (x12 : Int) (x13 : Int) (_l17 : (List PlanRule)) (_l18 : (List Int)) (_l19 : (List Bool)) : Option ((List (List Int))) :=
  (chk x13).bind fun _ =>
  (forS (mPlanSearchStart_L548 x12 x13) ((x13).toNat) 0 (List.replicate 8 (List.replicate 8 (0 : Int)))).bind (fun l893 =>
  some l893)

/-- fishplate/plan.solve-1 -/
noncomputable def mPlanSolve_1 (q3 : (Option (List (List Int)))) (x6 : Int) (x7 : Int) : Option (Bool) :=
  (q3).bind fun y93 =>
  (idx y93 x6).bind fun x100 =>
  (idx x100 0).bind fun x110 =>
  (chk (-x110)).bind fun _ =>
  some (decide (x7 ≤ (-x110)))

/-- fishplate/plan.floor -/
noncomputable def mPlanFloor (x1 : Int) (x2 : Int) : Option (Int) :=
  (ne0 x2).bind fun _ =>
  (chk (Int.tdiv x1 x2)).bind fun _ =>
  ((ne0 x2).bind fun _ =>
  if (Int.tmod x1 x2) < 0 then (
  (chk ((Int.tdiv x1 x2) - 1)).bind fun _ =>
  some ((Int.tdiv x1 x2) - 1))
  else (
  some (Int.tdiv x1 x2))).bind (fun x23 =>
  some x23)

noncomputable def mPlanSearchChoices_L718 (s17 : PlanRule) (x18 : Int) (y498 : (List (List Int))) : (Int × (List Int)) → Option ((Int × (List Int)) ⊕ ((List Int))) := unc2 fun x842 l843 =>
  (chk (x842 * x18)).bind fun _ =>
  (chk (s17.Max - (x842 * x18))).bind fun _ =>
  (idx y498 s17.To).bind fun x869 =>
  (idx x869 s17.From).bind fun x879 =>
  (chk (-x879)).bind fun _ =>
  if (-x879) ≤ (s17.Max - (x842 * x18)) then (
  (room 8 (l843.length + 1)).bind fun _ =>
  (chk (x842 + 1)).bind fun _ =>
  some (.inl (x842 + 1, l843 ++ [x842])))
  else (
  some (.inr l843))

/-- (*fishplate/plan.search).choices -/
noncomputable def mPlanSearchChoices (q14 : (Option (List (List Int)))) (s17 : PlanRule) (x18 : Int) (_x19 : Int) (_l23 : (List PlanRule)) (_x24 : Int) (_x25 : Int) (_l26 : (List Int)) (_l27 : (List Bool)) : Option ((List Int)) :=
  (q14).bind fun y498 =>
  (idx y498 s17.From).bind fun x505 =>
  (idx x505 s17.To).bind fun x515 =>
  (chk (x515 - s17.Min)).bind fun _ =>
  (mPlanFloor (x515 - s17.Min) x18).bind fun x526 =>
  (chk (-x526)).bind fun _ =>
  (loopM (mPlanSearchChoices_L718 s17 x18 y498) (((-x526), []) : Int × (List Int))).bind (fun l716 =>
  some l716)

/-- fishplate/plan.solve-2 -/
noncomputable def mPlanSolve_2_2 (q8 : (Option (List (List Int)))) (x11 : Int) (_x12 : Int) (_l13 : (List Int)) : Option (Int) :=
  (q8).bind fun y99 =>
  (idx y99 x11).bind fun x106 =>
  (idx x106 0).bind fun x116 =>
  (chk (-x116)).bind fun _ =>
  some (-x116)

noncomputable def mPlanBoundsClosed_L2671 (x5 : Int) (x6 : Int) (x7 : Int) (k2668 : Nat) (y1596 : (List (List Int))) (k3009 : Nat) : ((List (List Int))) → Option ((List (List Int))) := fun l3006 =>
  (idx l3006 (k2668 : Int)).bind fun x3094 =>
  (idx x3094 (k3009 : Int)).bind fun x3103 =>
  (idx y1596 (k2668 : Int)).bind fun x3113 =>
  (idx x3113 x5).bind fun x3123 =>
  (chk (x3123 + x7)).bind fun _ =>
  (idx y1596 x6).bind fun x3134 =>
  (idx x3134 (k3009 : Int)).bind fun x3144 =>
  (chk ((x3123 + x7) + x3144)).bind fun _ =>
  (idx l3006 (k2668 : Int)).bind fun x3155 =>
  (idx x3155 (k3009 : Int)).bind fun _ =>
  some (put l3006 (k2668 : Int) (put x3155 (k3009 : Int) (min x3103 ((x3123 + x7) + x3144))))

noncomputable def mPlanBoundsClosed_L1648 (x4 : Int) (x5 : Int) (x6 : Int) (x7 : Int) (y1596 : (List (List Int))) (k2668 : Nat) : ((List (List Int))) → Option ((List (List Int))) := fun l2665 =>
  (chk x4).bind fun _ =>
  (forS (mPlanBoundsClosed_L2671 x5 x6 x7 k2668 y1596) ((x4).toNat) 0 l2665).bind (fun l3006 =>
  some l3006)

/-- (*fishplate/plan.bounds).closed -/
noncomputable def mPlanBoundsClosed (q1 : (Option (List (List Int)))) (x4 : Int) (x5 : Int) (x6 : Int) (x7 : Int) : Option ((Option (List (List Int))) × Bool) :=
  (q1).bind fun y1596 =>
  (idx y1596 x5).bind fun x1603 =>
  (idx x1603 x6).bind fun x1613 =>
  if x1613 ≤ x7 then (
  some ((some y1596), true))
  else (
  (idx y1596 x6).bind fun x1624 =>
  (idx x1624 x5).bind fun x1634 =>
  (chk (x1634 + x7)).bind fun _ =>
  if (x1634 + x7) < 0 then (
  some (none, false))
  else (
  (chk x4).bind fun _ =>
  (forS (mPlanBoundsClosed_L1648 x4 x5 x6 x7 y1596) ((x4).toNat) 0 y1596).bind (fun l2665 =>
  some ((some l2665), true))))

/-- (*fishplate/plan.bounds).between -/
noncomputable def mPlanBoundsBetween (q1 : (Option (List (List Int)))) (x4 : Int) (x5 : Int) (x6 : Int) (x7 : Int) (x8 : Int) : Option ((Option (List (List Int))) × Bool) :=
  (mPlanBoundsClosed q1 x4 x5 x6 x8).bind (unc2 fun q29 x30 =>
  if x30 = true then (
  (chk (-x7)).bind fun _ =>
  (mPlanBoundsClosed q29 x4 x6 x5 (-x7)).bind (unc2 fun q38 x39 =>
  some (q38, x39)))
  else (
  some (none, false)))

noncomputable def mPlanSearchRun_L2074 (l22 : (List PlanRule)) (q14 : (Option (List (List Int)))) (x17 : Int) (x18 : Int) (x23 : Int) (l1950 : (List Int)) (x1946 : Int) (x2045 : PlanRule) (rcmPlanSearchRun : ((Option (List (List Int)))) → (Int) → (Int) → ((List PlanRule)) → (Int) → (Int) → ((List Int)) → ((List Bool)) → Option (Int × (List Int) × (List Bool))) (k2284 : Nat) : (Int × (List Int) × (List Bool)) → Option (Int × (List Int) × (List Bool)) := unc3 fun x2279 l2280 l2282 =>
  (idx l1950 (k2284 : Int)).bind fun x2287 =>
  ((chk (x2287 * x17)).bind fun _ =>
  (chk (x2045.Min - (x2287 * x17))).bind fun _ =>
  (chk (x2287 * x17)).bind fun _ =>
  (chk (x2045.Max - (x2287 * x17))).bind fun _ =>
  (mPlanBoundsBetween q14 x18 x2045.From x2045.To (x2045.Min - (x2287 * x17)) (x2045.Max - (x2287 * x17))).bind (unc2 fun q2341 x2342 =>
  some (q2341, x2342))).bind (unc2 fun q2321 x2324 =>
  if x2324 = true then (
  (idx l2280 x1946).bind fun _ =>
  (rcmPlanSearchRun q2321 x17 x18 l22 x23 x2279 (put l2280 x1946 x2287) l2282).bind (unc3 fun x2367 l2368 l2369 =>
  some (x2367, l2368, l2369)))
  else (
  some (x2279, l2280, l2282)))

noncomputable def mPlanSearchRun_L1779 (l22 : (List PlanRule)) (l25 : (List Int)) (l26 : (List Bool)) (q14 : (Option (List (List Int)))) (x17 : Int) (x18 : Int) (x23 : Int) (x24 : Int) (k1951 : Nat) : (Int × (List Int)) → Option ((Int × (List Int)) ⊕ (Int × (List Int) × (List Bool))) := unc2 fun x1946 l1950 =>
  (idx l22 (k1951 : Int)).bind fun x1955 =>
  (idx l26 (k1951 : Int)).bind fun x1966 =>
  if x1966 = true then (
  (mPlanSearchChoices q14 x1955 x17 x18 l22 x23 x24 l25 l26).bind fun l1983 =>
  ((if x1946 < 0 then (
  some true)
  else (
  some (decide ((l1983.length : Int) < (l1950.length : Int))))).bind (fun x2021 =>
  if x2021 = true then (
  some ((k1951 : Int), l1983, l1983))
  else (
  some (x1946, l1950, l1983)))).bind (unc3 fun x2008 l2012 l2016 =>
  if (l2016.length : Int) = 0 then (
  some (.inr (x24, l25, l26)))
  else (
  some (.inl (x2008, l2012)))))
  else (
  some (.inl (x1946, l1950)))

/-- (*fishplate/plan.search).run -/
noncomputable def mPlanSearchRun : Nat → ((Option (List (List Int)))) → (Int) → (Int) → ((List PlanRule)) → (Int) → (Int) → ((List Int)) → ((List Bool)) → Option (Int × (List Int) × (List Bool))
  | 0 => fun _ _ _ _ _ _ _ _ => none
  | N + 1 => fun q14 x17 x18 l22 x23 x24 l25 l26 =>
  (mPlanSolve_1 q14 x23 x24).bind fun x1774 =>
  if x1774 = true then (
  some (x24, l25, l26))
  else (
  (forM (mPlanSearchRun_L1779 l22 l25 l26 q14 x17 x18 x23 x24) l22.length 0 (((-1), []) : Int × (List Int))).bind fun t => Sum.elim (unc2 fun x1946 l1950 =>
  if x1946 < 0 then (
  (mPlanSolve_2_2 q14 x23 x24 l25).bind fun x2041 =>
  some (x2041, l25, l26))
  else (
  (idx l22 x1946).bind fun x2045 =>
  (idx l26 x1946).bind fun _ =>
  (forS (mPlanSearchRun_L2074 l22 q14 x17 x18 x23 l1950 x1946 x2045 (mPlanSearchRun N)) l1950.length 0 (x24, l25, put l26 x1946 false)).bind (unc3 fun x2279 l2280 l2282 =>
  (idx l2282 x1946).bind fun _ =>
  some (x2279, l2280, put l2282 x1946 true)))) (fun q => some q) t)

noncomputable def mPlanSolve_2_L564 (s1 : PlanPeriodic) (l370 : (List PlanRule)) (x368 : Int) (x369 : Int) : ((Option (List (List Int))) × Int × (List Int) × (List Int) × (List Bool)) → Option (((Option (List (List Int))) × Int × (List Int) × (List Int) × (List Bool)) ⊕ (((List Int)) ⊕ ((List Int)))) := unc5 fun q679 x684 l685 l687 l688 =>
  if x684 < s1.Events then (
  (lim (fun N => mPlanSearchRun N q679 x368 x369 l370 x684 s1.Period l687 l688)).bind (unc3 fun x691 l692 l693 =>
  if x691 = s1.Period then (
  some (.inr (.inr [])))
  else (
  (room 8 (l685.length + 1)).bind fun _ =>
  (mPlanBoundsBetween q679 s1.Events 0 x684 x691 x691).bind (unc2 fun q711 _ =>
  (chk (x684 + 1)).bind fun _ =>
  some (.inl (q711, x684 + 1, l685 ++ [x691], l692, l693))))))
  else (
  some (.inr (.inl l685)))

/-- fishplate/plan.solve -/
noncomputable def mPlanSolve_2 (s1 : PlanPeriodic) : Option ((List Int)) :=
  (mPlanNewSearch s1).bind (unc5 fun x368 x369 l370 l371 l372 =>
  (mPlanSearchStart x368 x369 l370 l371 l372).bind fun l388 =>
  (loopM (mPlanSolve_2_L564 s1 l370 x368 x369) ((some l388), 1, [0], l371, l372)).bind fun t => Sum.elim (fun l559 =>
  some l559) (fun r721 => some r721) t)

/-- fishplate/plan.Solve -/
noncomputable def mPlanSolve (s1 : PlanPeriodic) : Option (Int × (List Int)) :=
  (mPlanCheckPeriodic s1).bind fun x28 =>
  if x28 ≠ 0 then (
  some (x28, []))
  else (
  (mPlanSolve_2 s1).bind fun l31 =>
  if l31.isEmpty = true then (
  some (9, []))
  else (
  some (0, l31)))

noncomputable def mSlicesEqual_L104 (l4 : (List Int)) (l8 : (List Int)) (k149 : Nat) : (Unit) → Option ((Unit) ⊕ (Bool)) := fun _ =>
  (idx l4 (k149 : Int)).bind fun x173 =>
  (idx l8 (k149 : Int)).bind fun x183 =>
  if x173 ≠ x183 then (
  some (.inr false))
  else (
  some (.inl ()))

/-- slices.Equal[[]int,int] -/
noncomputable def mSlicesEqual (l4 : (List Int)) (l8 : (List Int)) : Option (Bool) :=
  if (l4.length : Int) ≠ (l8.length : Int) then (
  some false)
  else (
  (forM (mSlicesEqual_L104 l4 l8) l4.length 0 ()).bind fun t => Sum.elim (fun _ =>
  some true) (fun q => some q) t)

/-- fishplate/fishkeep2.periods -/
noncomputable def mFishkeep2Periods : Option (Bool) :=
  (mPlanSolve (⟨10, 2, [(⟨0, 1, 3, 4, 0⟩ : PlanRule)]⟩ : PlanPeriodic)).bind (unc2 fun x36 l37 =>
  (if x36 = 0 then (
  (mSlicesEqual l37 [0, 3]).bind fun x60 =>
  some x60)
  else (
  some false)).bind (fun x54 =>
  some x54))

/-- fishplate/fishref2.within -/
noncomputable def mFishref2Within (x1 : Int) (x2 : Int) (x3 : Int) : Option (Bool) :=
  (if x2 ≤ x1 then (
  some (decide (x1 ≤ x3)))
  else (
  some false)).bind (fun x14 =>
  some x14)

noncomputable def mFishref2PeriodicFault_L160 (s1 : PlanPeriodic) (k218 : Nat) : (Unit) → Option ((Unit) ⊕ (Int)) := fun _ =>
  (idx s1.Rules (k218 : Int)).bind fun x222 =>
  ((chk (s1.Events - 1)).bind fun _ =>
  (mFishref2Within x222.From 0 (s1.Events - 1)).bind fun x245 =>
  if x245 = true then (
  (chk (s1.Events - 1)).bind fun _ =>
  (mFishref2Within x222.To 0 (s1.Events - 1)).bind fun x249 =>
  some (!x249))
  else (
  some true)).bind (fun x242 =>
  if x242 = true then (
  some (.inr 3))
  else (
  if x222.From = x222.To then (
  some (.inr 1))
  else (
  ((mFishref2Within x222.Min 0 3600).bind fun x268 =>
  if x268 = true then (
  if x222.Max < x222.Min then (
  some true)
  else (
  (chk (x222.Min + s1.Period)).bind fun _ =>
  (chk ((x222.Min + s1.Period) - 1)).bind fun _ =>
  if ((x222.Min + s1.Period) - 1) < x222.Max then (
  some true)
  else (
  (mFishref2Within x222.Weight 0 1000).bind fun x275 =>
  some (!x275))))
  else (
  some true)).bind (fun x266 =>
  if x266 = true then (
  some (.inr 2))
  else (
  some (.inl ()))))))

/-- fishplate/fishref2.PeriodicFault -/
noncomputable def mFishref2PeriodicFault (s1 : PlanPeriodic) : Option (Int) :=
  ((mFishref2Within s1.Period 2 3600).bind fun x153 =>
  if x153 = true then (
  (mFishref2Within s1.Events 1 8).bind fun x156 =>
  some (!x156))
  else (
  some true)).bind (fun x151 =>
  if x151 = true then (
  some 2)
  else (
  if 40 < (s1.Rules.length : Int) then (
  some 4)
  else (
  (forM (mFishref2PeriodicFault_L160 s1) s1.Rules.length 0 ()).bind fun t => Sum.elim (fun _ =>
  some 0) (fun q => some q) t)))

noncomputable def mFishref2TimesFault_L58 (l8 : (List Int)) (s1 : PlanPeriodic) (k76 : Nat) : (Unit) → Option ((Unit) ⊕ (Int)) := fun _ =>
  (idx l8 (k76 : Int)).bind fun x80 =>
  (chk (s1.Period - 1)).bind fun _ =>
  (mFishref2Within x80 0 (s1.Period - 1)).bind fun x91 =>
  if x91 = true then (
  some (.inl ()))
  else (
  some (.inr 2))

/-- fishplate/fishref2.TimesFault -/
noncomputable def mFishref2TimesFault (s1 : PlanPeriodic) (l8 : (List Int)) : Option (Int) :=
  (mFishref2PeriodicFault s1).bind fun x54 =>
  if x54 ≠ 0 then (
  some x54)
  else (
  if (l8.length : Int) ≠ s1.Events then (
  some 1)
  else (
  (forM (mFishref2TimesFault_L58 l8 s1) l8.length 0 ()).bind fun t => Sum.elim (fun _ =>
  some 0) (fun q => some q) t))

noncomputable def mFishref2GapOf_L172 (s1 : PlanPeriodic) (s5 : PlanRule) : (Int) → Option ((Int) ⊕ (Int)) := fun x180 =>
  if x180 < s5.Min then (
  (chk (x180 + s1.Period)).bind fun _ =>
  some (.inl (x180 + s1.Period)))
  else (
  some (.inr x180))

noncomputable def mFishref2GapOf_L201 (s1 : PlanPeriodic) (s5 : PlanRule) : (Int) → Option ((Int) ⊕ (Int)) := fun x211 =>
  (chk (s5.Min + s1.Period)).bind fun _ =>
  if (s5.Min + s1.Period) ≤ x211 then (
  (chk (x211 - s1.Period)).bind fun _ =>
  some (.inl (x211 - s1.Period)))
  else (
  some (.inr x211))

/-- fishplate/fishref2.GapOf -/
noncomputable def mFishref2GapOf (s1 : PlanPeriodic) (s5 : PlanRule) (l9 : (List Int)) : Option (Int) :=
  (idx l9 s5.To).bind fun x136 =>
  (idx l9 s5.From).bind fun x146 =>
  (chk (x136 - x146)).bind fun _ =>
  (loopM (mFishref2GapOf_L172 s1 s5) (x136 - x146)).bind (fun x170 =>
  (loopM (mFishref2GapOf_L201 s1 s5) x170).bind (fun x199 =>
  some x199))

/-- fishplate/fishref2.BrokenOf-1 -/
noncomputable def mFishref2BrokenOf_1 (s3 : PlanRule) (x4 : Int) (x5 : Int) (l9 : (List PlanRule)) (l13 : (List Int)) : Option (Bool) :=
  (mFishref2GapOf (⟨x4, x5, l9⟩ : PlanPeriodic) s3 l13).bind fun x23 =>
  some (decide (s3.Max < x23))

noncomputable def mSlicesIndexFunc_L58 (l6 : (List PlanRule)) (x7 : Int) (x8 : Int) (l12 : (List PlanRule)) (l16 : (List Int)) (k77 : Nat) : (Unit) → Option ((Unit) ⊕ (Int)) := fun _ =>
  (idx l6 (k77 : Int)).bind fun x81 =>
  (mFishref2BrokenOf_1 x81 x7 x8 l12 l16).bind fun x91 =>
  if x91 = true then (
  some (.inr (k77 : Int)))
  else (
  some (.inl ()))

/-- slices.IndexFunc[[]fishplate/plan.Rule,fishplate/plan.Rule] -/
noncomputable def mSlicesIndexFunc (l6 : (List PlanRule)) (x7 : Int) (x8 : Int) (l12 : (List PlanRule)) (l16 : (List Int)) : Option (Int) :=
  (forM (mSlicesIndexFunc_L58 l6 x7 x8 l12 l16) l6.length 0 ()).bind fun t => Sum.elim (fun _ =>
  some (-1)) (fun q => some q) t

/-- fishplate/fishref2.BrokenOf -/
noncomputable def mFishref2BrokenOf (s1 : PlanPeriodic) (l8 : (List Int)) : Option (Int) :=
  (mSlicesIndexFunc s1.Rules s1.Period s1.Events s1.Rules l8).bind fun x18 =>
  some x18

/-- slices.Grow[[]fishplate/plan.Rule,fishplate/plan.Rule] -/
noncomputable def mSlicesGrow (x1 : Int) : Option ((List PlanRule)) :=
  if x1 < 0 then (
  none)
  else (
  ((chk (0 - 0)).bind fun _ =>
  (chk (x1 - (0 - 0))).bind fun _ =>
  if 0 < (x1 - (0 - 0)) then (
  (posN (x1 - (0 - 0))).bind fun m100 =>
  (room 40 m100).bind fun _ =>
  (cutS (List.replicate m100 ((⟨0, 0, 0, 0, 0⟩ : PlanRule) : PlanRule)) 0 0).bind fun l107 =>
  some l107)
  else (
  some [])).bind (fun l95 =>
  some l95))

noncomputable def mSlicesConcat_L217 (l4 : (List (List PlanRule))) (k275 : Nat) : ((List PlanRule)) → Option ((List PlanRule)) := fun l274 =>
  (idx l4 (k275 : Int)).bind fun x278 =>
  (room 40 (l274.length + x278.length)).bind fun _ =>
  some (l274 ++ x278)

noncomputable def mSlicesConcat_L155 (l4 : (List (List PlanRule))) (k191 : Nat) : (Int) → Option (Int) := fun x190 =>
  (idx l4 (k191 : Int)).bind fun x194 =>
  (chk (x190 + (x194.length : Int))).bind fun _ =>
  if (x190 + (x194.length : Int)) < 0 then (
  none)
  else (
  some (x190 + (x194.length : Int)))

/-- slices.Concat[[]fishplate/plan.Rule,fishplate/plan.Rule] -/
noncomputable def mSlicesConcat (l4 : (List (List PlanRule))) : Option ((List PlanRule)) :=
  (forS (mSlicesConcat_L155 l4) l4.length 0 0).bind (fun x190 =>
  (mSlicesGrow x190).bind fun l209 =>
  (forS (mSlicesConcat_L217 l4) l4.length 0 l209).bind (fun l274 =>
  some l274))

noncomputable def mPlanCore_L383 (s1 : PlanPeriodic) (k625 : Nat) : ((List PlanRule) × (List Int) × (List PlanRule)) → Option ((List PlanRule) × (List Int) × (List PlanRule)) := unc3 fun l622 l623 l624 =>
  (idx s1.Rules (k625 : Int)).bind fun x628 =>
  (cutS l622 1 (l622.length : Int)).bind fun l639 =>
  ((mSlicesConcat [l624, l639]).bind fun l695 =>
  some l695).bind (fun l682 =>
  (mPlanSolve_2 (⟨s1.Period, s1.Events, l682⟩ : PlanPeriodic)).bind fun l704 =>
  if l704.isEmpty = true then (
  some (l639, l623, l624))
  else (
  (room 40 (l624.length + 1)).bind fun _ =>
  (room 8 (l623.length + 1)).bind fun _ =>
  some (l639, l623 ++ [(k625 : Int)], l624 ++ [x628])))

/-- fishplate/plan.Core -/
noncomputable def mPlanCore (s1 : PlanPeriodic) : Option (Int × (List Int)) :=
  (mPlanCheckPeriodic s1).bind fun x370 =>
  if x370 ≠ 0 then (
  some (x370, []))
  else (
  (mPlanSolve_2 s1).bind fun l373 =>
  if l373.isEmpty = true then (
  (forS (mPlanCore_L383 s1) s1.Rules.length 0 ((s1.Rules, [], []) : (List PlanRule) × (List Int) × (List PlanRule))).bind (unc3 fun _ l623 _ =>
  some (0, l623)))
  else (
  some (9, [])))

/-- fishplate/fishkeep2.PlanCore-1 -/
noncomputable def mFishkeep2PlanCore_1 (x2 : Int) (_x3 : Int) (_x4 : Int) (l8 : (List PlanRule)) : Option (Bool) :=
  (if x2 < 0 then (
  some true)
  else (
  some (decide ((l8.length : Int) ≤ x2)))).bind (fun x19 =>
  some x19)

noncomputable def mSlicesIndexFunc_2_L67 (x7 : Int) (x8 : Int) (l12 : (List PlanRule)) (l13 : (List Int)) (k92 : Nat) : (Unit) → Option ((Unit) ⊕ (Int)) := fun _ =>
  (idx l13 (k92 : Int)).bind fun x96 =>
  (mFishkeep2PlanCore_1 x96 x7 x8 l12).bind fun x112 =>
  if x112 = true then (
  some (.inr (k92 : Int)))
  else (
  some (.inl ()))

/-- slices.IndexFunc[[]int,int] -/
noncomputable def mSlicesIndexFunc_2 (x7 : Int) (x8 : Int) (l12 : (List PlanRule)) (l13 : (List Int)) : Option (Int) :=
  (forM (mSlicesIndexFunc_2_L67 x7 x8 l12 l13) l13.length 0 ()).bind fun t => Sum.elim (fun _ =>
  some (-1)) (fun q => some q) t

/-- slices.ContainsFunc[[]int,int] -/
noncomputable def mSlicesContainsFunc (x7 : Int) (x8 : Int) (l12 : (List PlanRule)) (l13 : (List Int)) : Option (Bool) :=
  (mSlicesIndexFunc_2 x7 x8 l12 l13).bind fun x19 =>
  some (decide (0 ≤ x19))

noncomputable def mFishkeep2PlanCore_2_L196 (x8 : Int) (l14 : (List PlanRule)) (l15 : (List Int)) (k312 : Nat) : ((List PlanRule)) → Option ((List PlanRule)) := fun l311 =>
  (idx l15 (k312 : Int)).bind fun x315 =>
  if x315 ≠ x8 then (
  (idx l14 x315).bind fun x348 =>
  (room 40 (l311.length + 1)).bind fun _ =>
  some (l311 ++ [x348]))
  else (
  some l311)

/-- fishplate/fishkeep2.PlanCore-2 -/
noncomputable def mFishkeep2PlanCore_2 (x8 : Int) (x9 : Int) (x10 : Int) (l14 : (List PlanRule)) (l15 : (List Int)) : Option (Int × Int × (List PlanRule)) :=
  (forS (mFishkeep2PlanCore_2_L196 x8 l14 l15) l15.length 0 ([] : (List PlanRule))).bind (fun l311 =>
  some (x9, x10, l311))

noncomputable def mFishkeep2PlanCore_L290 (s1 : PlanPeriodic) (l254 : (List Int)) (k387 : Nat) : (Unit) → Option ((Unit) ⊕ (Bool)) := fun _ =>
  (idx l254 (k387 : Int)).bind fun x391 =>
  (mFishkeep2PlanCore_2 x391 s1.Period s1.Events s1.Rules l254).bind (unc3 fun x407 x408 l409 =>
  (mPlanSolve (⟨x407, x408, l409⟩ : PlanPeriodic)).bind (unc2 fun x417 l418 =>
  (if x417 ≠ 0 then (
  some true)
  else (
  (mFishkeep2PlanCore_2 x391 s1.Period s1.Events s1.Rules l254).bind (unc3 fun x458 x459 l460 =>
  (mFishref2TimesFault (⟨x458, x459, l460⟩ : PlanPeriodic) l418).bind fun x468 =>
  if x468 ≠ 0 then (
  some true)
  else (
  (mFishkeep2PlanCore_2 x391 s1.Period s1.Events s1.Rules l254).bind (unc3 fun x471 x472 l473 =>
  (mFishref2BrokenOf (⟨x471, x472, l473⟩ : PlanPeriodic) l418).bind fun x481 =>
  some (decide (0 ≤ x481))))))).bind (fun x455 =>
  if x455 = true then (
  some (.inr false))
  else (
  some (.inl ())))))

/-- fishplate/fishkeep2.PlanCore -/
noncomputable def mFishkeep2PlanCore (s1 : PlanPeriodic) : Option (Bool) :=
  (mFishkeep2AwakePlan).bind fun x247 =>
  if x247 = true then (
  (mFishkeep2Periods).bind fun x250 =>
  if x250 = true then (
  (mPlanCore s1).bind (unc2 fun x253 l254 =>
  if x253 ≠ 0 then (
  some (decide ((l254.length : Int) = 0)))
  else (
  (mSlicesContainsFunc s1.Period s1.Events s1.Rules l254).bind fun x264 =>
  if x264 = true then (
  some false)
  else (
  (mFishkeep2PlanCore_2 (-1) s1.Period s1.Events s1.Rules l254).bind (unc3 fun x269 x270 l271 =>
  (mPlanSolve (⟨x269, x270, l271⟩ : PlanPeriodic)).bind (unc2 fun x279 _ =>
  if x279 ≠ 9 then (
  some false)
  else (
  (forM (mFishkeep2PlanCore_L290 s1 l254) l254.length 0 ()).bind fun t => Sum.elim (fun _ =>
  some true) (fun q => some q) t)))))))
  else (
  some false))
  else (
  some false)

end Go.Proofs.Ytdphlkddelnaiaa
