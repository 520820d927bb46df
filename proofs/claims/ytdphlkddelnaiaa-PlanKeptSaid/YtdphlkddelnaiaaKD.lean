/- The models of the functions, as the extractor printed them. -/
import Derived.Test.YtdphlkddelnaiaaXE
set_option linter.unusedVariables false
set_option linter.unusedSimpArgs false
namespace Go.Proofs.Ytdphlkddelnaiaa
open Go.RowKit Go.Fp

structure PlanRule where
  From : Int
  To : Int
  Min : Int
  Max : Int
  Weight : Int
  deriving DecidableEq
def rPlanRule : RT PlanRule := (RT.cat (RT.on (RT.int .i64) PlanRule.From) (RT.cat (RT.on (RT.int .i64) PlanRule.To) (RT.cat (RT.on (RT.int .i64) PlanRule.Min) (RT.cat (RT.on (RT.int .i64) PlanRule.Max) (RT.on (RT.int .i64) PlanRule.Weight)))))
structure PlanPeriodic where
  Period : Int
  Events : Int
  Rules : (List PlanRule)
def rPlanPeriodic : RT PlanPeriodic := (RT.cat (RT.on (RT.int .i64) PlanPeriodic.Period) (RT.cat (RT.on (RT.int .i64) PlanPeriodic.Events) (RT.on (RT.list rPlanRule) PlanPeriodic.Rules)))

/-- fishplate/plan.within -/
noncomputable def mPlanWithin (x1 : Int) (x2 : Int) (x3 : Int) : Option (Bool) :=
  (if x2 ≤ x1 then (
  some (decide (x1 ≤ x3)))
  else (
  some false)).bind (fun x14 =>
  some x14)

noncomputable def mPlanCheckPeriodic_L164 (s1 : PlanPeriodic) (k224 : Nat) : (Unit) → Option ((Unit) ⊕ (Int)) := fun _ =>
  (idx s1.Rules (k224 : Int)).bind fun x228 =>
  ((chk (s1.Events - 1)).bind fun _ =>
  (mPlanWithin x228.From 0 (s1.Events - 1)).bind fun x251 =>
  if x251 = true then (
  (chk (s1.Events - 1)).bind fun _ =>
  (mPlanWithin x228.To 0 (s1.Events - 1)).bind fun x255 =>
  some (!x255))
  else (
  some true)).bind (fun x248 =>
  if x248 = true then (
  some (.inr 3))
  else (
  if x228.From = x228.To then (
  some (.inr 1))
  else (
  ((mPlanWithin x228.Min 0 3600).bind fun x275 =>
  if x275 = true then (
  (chk (x228.Min + s1.Period)).bind fun _ =>
  (chk ((x228.Min + s1.Period) - 1)).bind fun _ =>
  (mPlanWithin x228.Max x228.Min ((x228.Min + s1.Period) - 1)).bind fun x280 =>
  if x280 = true then (
  (mPlanWithin x228.Weight 0 1000).bind fun x283 =>
  some (!x283))
  else (
  some true))
  else (
  some true)).bind (fun x273 =>
  if x273 = true then (
  some (.inr 2))
  else (
  some (.inl ()))))))

/-- fishplate/plan.CheckPeriodic -/
noncomputable def mPlanCheckPeriodic (s1 : PlanPeriodic) : Option (Int) :=
  ((mPlanWithin s1.Period 2 3600).bind fun x157 =>
  if x157 = true then (
  (mPlanWithin s1.Events 1 8).bind fun x160 =>
  some (!x160))
  else (
  some true)).bind (fun x155 =>
  if x155 = true then (
  some 2)
  else (
  if 40 < (s1.Rules.length : Int) then (
  some 4)
  else (
  (forM (mPlanCheckPeriodic_L164 s1) s1.Rules.length 0 ()).bind fun t => Sum.elim (fun _ =>
  some 0) (fun q => some q) t)))

noncomputable def mPlanCheckTimes_L58 (l8 : (List Int)) (s1 : PlanPeriodic) (k76 : Nat) : (Unit) → Option ((Unit) ⊕ (Int)) := fun _ =>
  (idx l8 (k76 : Int)).bind fun x80 =>
  (chk (s1.Period - 1)).bind fun _ =>
  (mPlanWithin x80 0 (s1.Period - 1)).bind fun x91 =>
  if x91 = true then (
  some (.inl ()))
  else (
  some (.inr 2))

/-- fishplate/plan.checkTimes -/
noncomputable def mPlanCheckTimes (s1 : PlanPeriodic) (l8 : (List Int)) : Option (Int) :=
  (mPlanCheckPeriodic s1).bind fun x54 =>
  if x54 ≠ 0 then (
  some x54)
  else (
  if (l8.length : Int) ≠ s1.Events then (
  some 1)
  else (
  (forM (mPlanCheckTimes_L58 l8 s1) l8.length 0 ()).bind fun t => Sum.elim (fun _ =>
  some 0) (fun q => some q) t))

/-- fishplate/plan.gap -/
noncomputable def mPlanGap_2 (s1 : PlanPeriodic) (s5 : PlanRule) (l9 : (List Int)) : Option (Int) :=
  (idx l9 s5.To).bind fun x93 =>
  (idx l9 s5.From).bind fun x103 =>
  (chk (x93 - x103)).bind fun _ =>
  (chk ((x93 - x103) - s5.Min)).bind fun _ =>
  (ne0 s1.Period).bind fun _ =>
  (if (Int.tmod ((x93 - x103) - s5.Min) s1.Period) < 0 then (
  (chk ((Int.tmod ((x93 - x103) - s5.Min) s1.Period) + s1.Period)).bind fun _ =>
  some ((Int.tmod ((x93 - x103) - s5.Min) s1.Period) + s1.Period))
  else (
  some (Int.tmod ((x93 - x103) - s5.Min) s1.Period))).bind (fun x120 =>
  (chk (s5.Min + x120)).bind fun _ =>
  some (s5.Min + x120))

/-- fishplate/plan.Gap -/
noncomputable def mPlanGap (s1 : PlanPeriodic) (x5 : Int) (l9 : (List Int)) : Option (Int × Int) :=
  (mPlanCheckTimes s1 l9).bind fun x45 =>
  if x45 ≠ 0 then (
  some (0, x45))
  else (
  (chk ((s1.Rules.length : Int) - 1)).bind fun _ =>
  (mPlanWithin x5 0 ((s1.Rules.length : Int) - 1)).bind fun x49 =>
  if x49 = true then (
  (idx s1.Rules x5).bind fun x64 =>
  (mPlanGap_2 s1 x64 l9).bind fun x74 =>
  some (x74, 0))
  else (
  some (0, 3)))

/-- fishplate/fishkeep2.awakePlan -/
noncomputable def mFishkeep2AwakePlan : Option (Bool) :=
  (mPlanGap (⟨0, 0, []⟩ : PlanPeriodic) (-1) []).bind (unc2 fun _ x6 =>
  some (decide (x6 ≠ 0)))

/-- math/bits.Mul64 -/
noncomputable def mBitsMul64 (x1 : Int) (x2 : Int) : Option (Int × Int) :=
  (shN 32).bind fun _ =>
  (shN 32).bind fun _ =>
  (shN 32).bind fun _ =>
  (shN 32).bind fun _ =>
  (shN 32).bind fun _ =>
  some (IntKind.wrap .u64 ((IntKind.wrap .u64 ((IntKind.wrap .u64 ((shrI .u64 x1 32) * (shrI .u64 x2 32))) + (shrI .u64 (IntKind.wrap .u64 ((IntKind.wrap .u64 ((shrI .u64 x1 32) * (andI .u64 x2 4294967295))) + (shrI .u64 (IntKind.wrap .u64 ((andI .u64 x1 4294967295) * (andI .u64 x2 4294967295))) 32))) 32))) + (shrI .u64 (IntKind.wrap .u64 ((andI .u64 (IntKind.wrap .u64 ((IntKind.wrap .u64 ((shrI .u64 x1 32) * (andI .u64 x2 4294967295))) + (shrI .u64 (IntKind.wrap .u64 ((andI .u64 x1 4294967295) * (andI .u64 x2 4294967295))) 32))) 4294967295) + (IntKind.wrap .u64 ((andI .u64 x1 4294967295) * (shrI .u64 x2 32))))) 32)), IntKind.wrap .u64 (x1 * x2))

/-- math/bits.Mul -/
noncomputable def mBitsMul (x1 : Int) (x2 : Int) : Option (Int × Int) :=
  (mBitsMul64 x1 x2).bind (unc2 fun x8 x9 =>
  some (x8, x9))

noncomputable def mSlicesRepeat_L612  : (Int × (List Bool)) → Option ((Int × (List Bool)) ⊕ ((List Bool))) := unc2 fun x734 l735 =>
  if x734 < (l735.length : Int) then (
  (cutS l735 x734 (l735.length : Int)).bind fun _ =>
  (cutS l735 0 x734).bind fun l775 =>
  (chk (x734 + (cpyN x734 (l735.length : Int) l775))).bind fun _ =>
  some (.inl (x734 + (cpyN x734 (l735.length : Int) l775), cpyI l735 x734 (l735.length : Int) l775)))
  else (
  some (.inr l735))

/-- slices.Repeat[[]bool,bool] -/
noncomputable def mSlicesRepeat (l4 : (List Bool)) (x5 : Int) : Option ((List Bool)) :=
  if x5 < 0 then (
  none)
  else (
  (mBitsMul (IntKind.wrap .u64 (l4.length : Int)) (IntKind.wrap .u64 x5)).bind (unc2 fun x403 x404 =>
  (if 0 < x403 then (
  some true)
  else (
  some (decide (9223372036854775807 < x404)))).bind (fun x409 =>
  if x409 = true then (
  none)
  else (
  (mkLen 1 (IntKind.wrap .i64 x404)).bind fun m413 =>
  (loopM mSlicesRepeat_L612 (cpyN 0 ((List.replicate m413 (false : Bool)).length : Int) l4, cpyI (List.replicate m413 (false : Bool)) 0 ((List.replicate m413 (false : Bool)).length : Int) l4)).bind (fun l609 =>
  some l609)))))

/-- fishplate/plan.newSearch -/
noncomputable def mPlanNewSearch (s1 : PlanPeriodic) : Option (Int × Int × (List PlanRule) × (List Int) × (List Bool)) :=
  ((mkLen 8 (s1.Rules.length : Int)).bind fun m184 =>
  (mSlicesRepeat [true] (s1.Rules.length : Int)).bind fun l193 =>
  some (List.replicate m184 (0 : Int), l193)).bind (unc2 fun l163 l164 =>
  some (s1.Period, s1.Events, s1.Rules, l163, l164))

noncomputable def mPlanSearchStart_L899 (x12 : Int) (k896 : Nat) (k999 : Nat) : ((List (List Int))) → Option ((List (List Int))) := fun l996 =>
  if (k896 : Int) ≠ (k999 : Int) then (
  (chk (x12 - 1)).bind fun _ =>
  (idx l996 (k896 : Int)).bind fun x1026 =>
  (idx x1026 (k999 : Int)).bind fun _ =>
  some (put l996 (k896 : Int) (put x1026 (k999 : Int) (x12 - 1))))
  else (
  some l996)

noncomputable def mPlanSearchStart_L548 (x12 : Int) (x13 : Int) (k896 : Nat) : ((List (List Int))) → Option ((List (List Int))) := fun l893 =>
  (chk x13).bind fun _ =>
  (forS (mPlanSearchStart_L899 x12 k896) ((x13).toNat) 0 l893).bind (fun l996 =>
  (idx l996 (k896 : Int)).bind fun x1047 =>
  (idx x1047 0).bind fun _ =>
  some (put l996 (k896 : Int) (put x1047 0 0)))

/-- (*fishplate/plan.search).start -/
noncomputable def mPlanSearchStart (x12 : Int) (x13 : Int) (_l17 : (List PlanRule)) (_l18 : (List Int)) (_l19 : (List Bool)) : Option ((List (List Int))) :=
  (chk x13).bind fun _ =>
  (forS (mPlanSearchStart_L548 x12 x13) ((x13).toNat) 0 (List.replicate 8 (List.replicate 8 (0 : Int)))).bind (fun l893 =>
  some l893)

/-- fishplate/plan.solve-1 -/
noncomputable def mPlanSolve_1 (q3 : (Option (List (List Int)))) (x6 : Int) (x7 : Int) : Option (Bool) :=
  (q3).bind fun y93 =>
  (idx y93 x6).bind fun x100 =>
  (idx x100 0).bind fun x110 =>
  (chk (-x110)).bind fun _ =>
  some (decide (x7 ≤ (-x110)))

/-- fishplate/plan.floor -/
noncomputable def mPlanFloor (x1 : Int) (x2 : Int) : Option (Int) :=
  (ne0 x2).bind fun _ =>
  (chk (Int.tdiv x1 x2)).bind fun _ =>
  ((ne0 x2).bind fun _ =>
  if (Int.tmod x1 x2) < 0 then (
  (chk ((Int.tdiv x1 x2) - 1)).bind fun _ =>
  some ((Int.tdiv x1 x2) - 1))
  else (
  some (Int.tdiv x1 x2))).bind (fun x23 =>
  some x23)

noncomputable def mPlanSearchChoices_L718 (s17 : PlanRule) (x18 : Int) (y498 : (List (List Int))) : (Int × (List Int)) → Option ((Int × (List Int)) ⊕ ((List Int))) := unc2 fun x842 l843 =>
  (chk (x842 * x18)).bind fun _ =>
  (chk (s17.Max - (x842 * x18))).bind fun _ =>
  (idx y498 s17.To).bind fun x869 =>
  (idx x869 s17.From).bind fun x879 =>
  (chk (-x879)).bind fun _ =>
  if (-x879) ≤ (s17.Max - (x842 * x18)) then (
  (room 8 (l843.length + 1)).bind fun _ =>
  (chk (x842 + 1)).bind fun _ =>
  some (.inl (x842 + 1, l843 ++ [x842])))
  else (
  some (.inr l843))

/-- (*fishplate/plan.search).choices -/
noncomputable def mPlanSearchChoices (q14 : (Option (List (List Int)))) (s17 : PlanRule) (x18 : Int) (_x19 : Int) (_l23 : (List PlanRule)) (_x24 : Int) (_x25 : Int) (_l26 : (List Int)) (_l27 : (List Bool)) : Option ((List Int)) :=
  (q14).bind fun y498 =>
  (idx y498 s17.From).bind fun x505 =>
  (idx x505 s17.To).bind fun x515 =>
  (chk (x515 - s17.Min)).bind fun _ =>
  (mPlanFloor (x515 - s17.Min) x18).bind fun x526 =>
  (chk (-x526)).bind fun _ =>
  (loopM (mPlanSearchChoices_L718 s17 x18 y498) (((-x526), []) : Int × (List Int))).bind (fun l716 =>
  some l716)

/-- fishplate/plan.solve-2 -/
noncomputable def mPlanSolve_2_2 (q8 : (Option (List (List Int)))) (x11 : Int) (_x12 : Int) (_l13 : (List Int)) : Option (Int) :=
  (q8).bind fun y99 =>
  (idx y99 x11).bind fun x106 =>
  (idx x106 0).bind fun x116 =>
  (chk (-x116)).bind fun _ =>
  some (-x116)

noncomputable def mPlanBoundsClosed_L2671 (x5 : Int) (x6 : Int) (x7 : Int) (k2668 : Nat) (y1596 : (List (List Int))) (k3009 : Nat) : ((List (List Int))) → Option ((List (List Int))) := fun l3006 =>
  (idx l3006 (k2668 : Int)).bind fun x3094 =>
  (idx x3094 (k3009 : Int)).bind fun x3103 =>
  (idx y1596 (k2668 : Int)).bind fun x3113 =>
  (idx x3113 x5).bind fun x3123 =>
  (chk (x3123 + x7)).bind fun _ =>
  (idx y1596 x6).bind fun x3134 =>
  (idx x3134 (k3009 : Int)).bind fun x3144 =>
  (chk ((x3123 + x7) + x3144)).bind fun _ =>
  (idx l3006 (k2668 : Int)).bind fun x3155 =>
  (idx x3155 (k3009 : Int)).bind fun _ =>
  some (put l3006 (k2668 : Int) (put x3155 (k3009 : Int) (min x3103 ((x3123 + x7) + x3144))))

noncomputable def mPlanBoundsClosed_L1648 (x4 : Int) (x5 : Int) (x6 : Int) (x7 : Int) (y1596 : (List (List Int))) (k2668 : Nat) : ((List (List Int))) → Option ((List (List Int))) := fun l2665 =>
  (chk x4).bind fun _ =>
  (forS (mPlanBoundsClosed_L2671 x5 x6 x7 k2668 y1596) ((x4).toNat) 0 l2665).bind (fun l3006 =>
  some l3006)

/-- (*fishplate/plan.bounds).closed -/
noncomputable def mPlanBoundsClosed (q1 : (Option (List (List Int)))) (x4 : Int) (x5 : Int) (x6 : Int) (x7 : Int) : Option ((Option (List (List Int))) × Bool) :=
  (q1).bind fun y1596 =>
  (idx y1596 x5).bind fun x1603 =>
  (idx x1603 x6).bind fun x1613 =>
  if x1613 ≤ x7 then (
  some ((some y1596), true))
  else (
  (idx y1596 x6).bind fun x1624 =>
  (idx x1624 x5).bind fun x1634 =>
  (chk (x1634 + x7)).bind fun _ =>
  if (x1634 + x7) < 0 then (
  some (none, false))
  else (
  (chk x4).bind fun _ =>
  (forS (mPlanBoundsClosed_L1648 x4 x5 x6 x7 y1596) ((x4).toNat) 0 y1596).bind (fun l2665 =>
  some ((some l2665), true))))

/-- (*fishplate/plan.bounds).between -/
noncomputable def mPlanBoundsBetween (q1 : (Option (List (List Int)))) (x4 : Int) (x5 : Int) (x6 : Int) (x7 : Int) (x8 : Int) : Option ((Option (List (List Int))) × Bool) :=
  (mPlanBoundsClosed q1 x4 x5 x6 x8).bind (unc2 fun q29 x30 =>
  if x30 = true then (
  (chk (-x7)).bind fun _ =>
  (mPlanBoundsClosed q29 x4 x6 x5 (-x7)).bind (unc2 fun q38 x39 =>
  some (q38, x39)))
  else (
  some (none, false)))

noncomputable def mPlanSearchRun_L2074 (l22 : (List PlanRule)) (q14 : (Option (List (List Int)))) (x17 : Int) (x18 : Int) (x23 : Int) (l1950 : (List Int)) (x1946 : Int) (x2045 : PlanRule) (rcmPlanSearchRun : ((Option (List (List Int)))) → (Int) → (Int) → ((List PlanRule)) → (Int) → (Int) → ((List Int)) → ((List Bool)) → Option (Int × (List Int) × (List Bool))) (k2284 : Nat) : (Int × (List Int) × (List Bool)) → Option (Int × (List Int) × (List Bool)) := unc3 fun x2279 l2280 l2282 =>
  (idx l1950 (k2284 : Int)).bind fun x2287 =>
  ((chk (x2287 * x17)).bind fun _ =>
  (chk (x2045.Min - (x2287 * x17))).bind fun _ =>
  (chk (x2287 * x17)).bind fun _ =>
  (chk (x2045.Max - (x2287 * x17))).bind fun _ =>
  (mPlanBoundsBetween q14 x18 x2045.From x2045.To (x2045.Min - (x2287 * x17)) (x2045.Max - (x2287 * x17))).bind (unc2 fun q2341 x2342 =>
  some (q2341, x2342))).bind (unc2 fun q2321 x2324 =>
  if x2324 = true then (
  (idx l2280 x1946).bind fun _ =>
  (rcmPlanSearchRun q2321 x17 x18 l22 x23 x2279 (put l2280 x1946 x2287) l2282).bind (unc3 fun x2367 l2368 l2369 =>
  some (x2367, l2368, l2369)))
  else (
  some (x2279, l2280, l2282)))

noncomputable def mPlanSearchRun_L1779 (l22 : (List PlanRule)) (l25 : (List Int)) (l26 : (List Bool)) (q14 : (Option (List (List Int)))) (x17 : Int) (x18 : Int) (x23 : Int) (x24 : Int) (k1951 : Nat) : (Int × (List Int)) → Option ((Int × (List Int)) ⊕ (Int × (List Int) × (List Bool))) := unc2 fun x1946 l1950 =>
  (idx l22 (k1951 : Int)).bind fun x1955 =>
  (idx l26 (k1951 : Int)).bind fun x1966 =>
  if x1966 = true then (
  (mPlanSearchChoices q14 x1955 x17 x18 l22 x23 x24 l25 l26).bind fun l1983 =>
  ((if x1946 < 0 then (
  some true)
  else (
  some (decide ((l1983.length : Int) < (l1950.length : Int))))).bind (fun x2021 =>
  if x2021 = true then (
  some ((k1951 : Int), l1983, l1983))
  else (
  some (x1946, l1950, l1983)))).bind (unc3 fun x2008 l2012 l2016 =>
  if (l2016.length : Int) = 0 then (
  some (.inr (x24, l25, l26)))
  else (
  some (.inl (x2008, l2012)))))
  else (
  some (.inl (x1946, l1950)))

/-- (*fishplate/plan.search).run -/
noncomputable def mPlanSearchRun : Nat → ((Option (List (List Int)))) → (Int) → (Int) → ((List PlanRule)) → (Int) → (Int) → ((List Int)) → ((List Bool)) → Option (Int × (List Int) × (List Bool))
  | 0 => fun _ _ _ _ _ _ _ _ => none
  | N + 1 => fun q14 x17 x18 l22 x23 x24 l25 l26 =>
  (mPlanSolve_1 q14 x23 x24).bind fun x1774 =>
  if x1774 = true then (
  some (x24, l25, l26))
  else (
  (forM (mPlanSearchRun_L1779 l22 l25 l26 q14 x17 x18 x23 x24) l22.length 0 (((-1), []) : Int × (List Int))).bind fun t => Sum.elim (unc2 fun x1946 l1950 =>
  if x1946 < 0 then (
  (mPlanSolve_2_2 q14 x23 x24 l25).bind fun x2041 =>
  some (x2041, l25, l26))
  else (
  (idx l22 x1946).bind fun x2045 =>
  (idx l26 x1946).bind fun _ =>
  (forS (mPlanSearchRun_L2074 l22 q14 x17 x18 x23 l1950 x1946 x2045 (mPlanSearchRun N)) l1950.length 0 (x24, l25, put l26 x1946 false)).bind (unc3 fun x2279 l2280 l2282 =>
  (idx l2282 x1946).bind fun _ =>
  some (x2279, l2280, put l2282 x1946 true)))) (fun q => some q) t)

noncomputable def mPlanSolve_2_L564 (s1 : PlanPeriodic) (l370 : (List PlanRule)) (x368 : Int) (x369 : Int) : ((Option (List (List Int))) × Int × (List Int) × (List Int) × (List Bool)) → Option (((Option (List (List Int))) × Int × (List Int) × (List Int) × (List Bool)) ⊕ (((List Int)) ⊕ ((List Int)))) := unc5 fun q679 x684 l685 l687 l688 =>
  if x684 < s1.Events then (
  (lim (fun N => mPlanSearchRun N q679 x368 x369 l370 x684 s1.Period l687 l688)).bind (unc3 fun x691 l692 l693 =>
  if x691 = s1.Period then (
  some (.inr (.inr [])))
  else (
  (room 8 (l685.length + 1)).bind fun _ =>
  (mPlanBoundsBetween q679 s1.Events 0 x684 x691 x691).bind (unc2 fun q711 _ =>
  (chk (x684 + 1)).bind fun _ =>
  some (.inl (q711, x684 + 1, l685 ++ [x691], l692, l693))))))
  else (
  some (.inr (.inl l685)))

/-- fishplate/plan.solve -/
noncomputable def mPlanSolve_2 (s1 : PlanPeriodic) : Option ((List Int)) :=
  (mPlanNewSearch s1).bind (unc5 fun x368 x369 l370 l371 l372 =>
  (mPlanSearchStart x368 x369 l370 l371 l372).bind fun l388 =>
  (loopM (mPlanSolve_2_L564 s1 l370 x368 x369) ((some l388), 1, [0], l371, l372)).bind fun t => Sum.elim (fun l559 =>
  some l559) (fun r721 => some r721) t)

/-- fishplate/plan.Solve -/
noncomputable def mPlanSolve (s1 : PlanPeriodic) : Option (Int × (List Int)) :=
  (mPlanCheckPeriodic s1).bind fun x28 =>
  if x28 ≠ 0 then (
  some (x28, []))
  else (
  (mPlanSolve_2 s1).bind fun l31 =>
  if l31.isEmpty = true then (
  some (9, []))
  else (
  some (0, l31)))

noncomputable def mSlicesEqual_L104 (l4 : (List Int)) (l8 : (List Int)) (k149 : Nat) : (Unit) → Option ((Unit) ⊕ (Bool)) := fun _ =>
  (idx l4 (k149 : Int)).bind fun x173 =>
  (idx l8 (k149 : Int)).bind fun x183 =>
  if x173 ≠ x183 then (
  some (.inr false))
  else (
  some (.inl ()))

/-- slices.Equal[[]int,int] -/
noncomputable def mSlicesEqual (l4 : (List Int)) (l8 : (List Int)) : Option (Bool) :=
  if (l4.length : Int) ≠ (l8.length : Int) then (
  some false)
  else (
  (forM (mSlicesEqual_L104 l4 l8) l4.length 0 ()).bind fun t => Sum.elim (fun _ =>
  some true) (fun q => some q) t)

/-- fishplate/fishkeep2.periods -/
noncomputable def mFishkeep2Periods : Option (Bool) :=
  (mPlanSolve (⟨10, 2, [(⟨0, 1, 3, 4, 0⟩ : PlanRule)]⟩ : PlanPeriodic)).bind (unc2 fun x36 l37 =>
  (if x36 = 0 then (
  (mSlicesEqual l37 [0, 3]).bind fun x60 =>
  some x60)
  else (
  some false)).bind (fun x54 =>
  some x54))

/-- fishplate/fishref2.within -/
noncomputable def mFishref2Within (x1 : Int) (x2 : Int) (x3 : Int) : Option (Bool) :=
  (if x2 ≤ x1 then (
  some (decide (x1 ≤ x3)))
  else (
  some false)).bind (fun x14 =>
  some x14)

noncomputable def mFishref2PeriodicFault_L160 (s1 : PlanPeriodic) (k218 : Nat) : (Unit) → Option ((Unit) ⊕ (Int)) := fun _ =>
  (idx s1.Rules (k218 : Int)).bind fun x222 =>
  ((chk (s1.Events - 1)).bind fun _ =>
  (mFishref2Within x222.From 0 (s1.Events - 1)).bind fun x245 =>
  if x245 = true then (
  (chk (s1.Events - 1)).bind fun _ =>
  (mFishref2Within x222.To 0 (s1.Events - 1)).bind fun x249 =>
  some (!x249))
  else (
  some true)).bind (fun x242 =>
  if x242 = true then (
  some (.inr 3))
  else (
  if x222.From = x222.To then (
  some (.inr 1))
  else (
  ((mFishref2Within x222.Min 0 3600).bind fun x268 =>
  if x268 = true then (
  if x222.Max < x222.Min then (
  some true)
  else (
  (chk (x222.Min + s1.Period)).bind fun _ =>
  (chk ((x222.Min + s1.Period) - 1)).bind fun _ =>
  if ((x222.Min + s1.Period) - 1) < x222.Max then (
  some true)
  else (
  (mFishref2Within x222.Weight 0 1000).bind fun x275 =>
  some (!x275))))
  else (
  some true)).bind (fun x266 =>
  if x266 = true then (
  some (.inr 2))
  else (
  some (.inl ()))))))

/-- fishplate/fishref2.PeriodicFault -/
noncomputable def mFishref2PeriodicFault (s1 : PlanPeriodic) : Option (Int) :=
  ((mFishref2Within s1.Period 2 3600).bind fun x153 =>
  if x153 = true then (
  (mFishref2Within s1.Events 1 8).bind fun x156 =>
  some (!x156))
  else (
  some true)).bind (fun x151 =>
  if x151 = true then (
  some 2)
  else (
  if 40 < (s1.Rules.length : Int) then (
  some 4)
  else (
  (forM (mFishref2PeriodicFault_L160 s1) s1.Rules.length 0 ()).bind fun t => Sum.elim (fun _ =>
  some 0) (fun q => some q) t)))

noncomputable def mFishref2TimesFault_L58 (l8 : (List Int)) (s1 : PlanPeriodic) (k76 : Nat) : (Unit) → Option ((Unit) ⊕ (Int)) := fun _ =>
  (idx l8 (k76 : Int)).bind fun x80 =>
  (chk (s1.Period - 1)).bind fun _ =>
  (mFishref2Within x80 0 (s1.Period - 1)).bind fun x91 =>
  if x91 = true then (
  some (.inl ()))
  else (
  some (.inr 2))

/-- fishplate/fishref2.TimesFault -/
noncomputable def mFishref2TimesFault (s1 : PlanPeriodic) (l8 : (List Int)) : Option (Int) :=
  (mFishref2PeriodicFault s1).bind fun x54 =>
  if x54 ≠ 0 then (
  some x54)
  else (
  if (l8.length : Int) ≠ s1.Events then (
  some 1)
  else (
  (forM (mFishref2TimesFault_L58 l8 s1) l8.length 0 ()).bind fun t => Sum.elim (fun _ =>
  some 0) (fun q => some q) t))

noncomputable def mFishref2GapOf_L172 (s1 : PlanPeriodic) (s5 : PlanRule) : (Int) → Option ((Int) ⊕ (Int)) := fun x180 =>
  if x180 < s5.Min then (
  (chk (x180 + s1.Period)).bind fun _ =>
  some (.inl (x180 + s1.Period)))
  else (
  some (.inr x180))

noncomputable def mFishref2GapOf_L201 (s1 : PlanPeriodic) (s5 : PlanRule) : (Int) → Option ((Int) ⊕ (Int)) := fun x211 =>
  (chk (s5.Min + s1.Period)).bind fun _ =>
  if (s5.Min + s1.Period) ≤ x211 then (
  (chk (x211 - s1.Period)).bind fun _ =>
  some (.inl (x211 - s1.Period)))
  else (
  some (.inr x211))

/-- fishplate/fishref2.GapOf -/
noncomputable def mFishref2GapOf (s1 : PlanPeriodic) (s5 : PlanRule) (l9 : (List Int)) : Option (Int) :=
  (idx l9 s5.To).bind fun x136 =>
  (idx l9 s5.From).bind fun x146 =>
  (chk (x136 - x146)).bind fun _ =>
  (loopM (mFishref2GapOf_L172 s1 s5) (x136 - x146)).bind (fun x170 =>
  (loopM (mFishref2GapOf_L201 s1 s5) x170).bind (fun x199 =>
  some x199))

/-- fishplate/fishref2.BrokenOf-1 -/
noncomputable def mFishref2BrokenOf_1 (s3 : PlanRule) (x4 : Int) (x5 : Int) (l9 : (List PlanRule)) (l13 : (List Int)) : Option (Bool) :=
  (mFishref2GapOf (⟨x4, x5, l9⟩ : PlanPeriodic) s3 l13).bind fun x23 =>
  some (decide (s3.Max < x23))

noncomputable def mSlicesIndexFunc_L58 (l6 : (List PlanRule)) (x7 : Int) (x8 : Int) (l12 : (List PlanRule)) (l16 : (List Int)) (k77 : Nat) : (Unit) → Option ((Unit) ⊕ (Int)) := fun _ =>
  (idx l6 (k77 : Int)).bind fun x81 =>
  (mFishref2BrokenOf_1 x81 x7 x8 l12 l16).bind fun x91 =>
  if x91 = true then (
  some (.inr (k77 : Int)))
  else (
  some (.inl ()))

/-- slices.IndexFunc[[]fishplate/plan.Rule,fishplate/plan.Rule] -/
noncomputable def mSlicesIndexFunc (l6 : (List PlanRule)) (x7 : Int) (x8 : Int) (l12 : (List PlanRule)) (l16 : (List Int)) : Option (Int) :=
  (forM (mSlicesIndexFunc_L58 l6 x7 x8 l12 l16) l6.length 0 ()).bind fun t => Sum.elim (fun _ =>
  some (-1)) (fun q => some q) t

/-- fishplate/fishref2.BrokenOf -/
noncomputable def mFishref2BrokenOf (s1 : PlanPeriodic) (l8 : (List Int)) : Option (Int) :=
  (mSlicesIndexFunc s1.Rules s1.Period s1.Events s1.Rules l8).bind fun x18 =>
  some x18

/-- cmp.isNaN[int] -/
noncomputable def mCmpIsNaN (x1 : Int) : Option (Bool) :=
  some (decide (x1 ≠ x1))

/-- cmp.Compare[int] -/
noncomputable def mCmpCompare (x1 : Int) (x2 : Int) : Option (Int) :=
  (mCmpIsNaN x1).bind fun x13 =>
  (mCmpIsNaN x2).bind fun x15 =>
  if x13 = true then (
  if x15 = true then (
  some 0)
  else (
  some (-1)))
  else (
  if x15 = true then (
  some 1)
  else (
  if x1 < x2 then (
  some (-1))
  else (
  if x2 < x1 then (
  some 1)
  else (
  some 0))))

noncomputable def mSlicesCompare_L70 (l4 : (List Int)) (l8 : (List Int)) (k98 : Nat) : (Unit) → Option ((Unit) ⊕ (Int)) := fun _ =>
  (idx l4 (k98 : Int)).bind fun x102 =>
  if (l8.length : Int) ≤ (k98 : Int) then (
  some (.inr 1))
  else (
  (idx l8 (k98 : Int)).bind fun x114 =>
  (mCmpCompare x102 x114).bind fun x124 =>
  if x124 ≠ 0 then (
  some (.inr x124))
  else (
  some (.inl ())))

/-- slices.Compare[[]int,int] -/
noncomputable def mSlicesCompare (l4 : (List Int)) (l8 : (List Int)) : Option (Int) :=
  (forM (mSlicesCompare_L70 l4 l8) l4.length 0 ()).bind fun t => Sum.elim (fun _ =>
  if (l4.length : Int) < (l8.length : Int) then (
  some (-1))
  else (
  some 0)) (fun q => some q) t

/-- fishplate/plan.Broken-1 -/
noncomputable def mPlanBroken_1 (s3 : PlanRule) (x4 : Int) (x5 : Int) (l9 : (List PlanRule)) (l13 : (List Int)) : Option (Bool) :=
  (mPlanGap_2 (⟨x4, x5, l9⟩ : PlanPeriodic) s3 l13).bind fun x23 =>
  some (decide (s3.Max < x23))

noncomputable def mSlicesIndexFunc_3_L58 (l6 : (List PlanRule)) (x7 : Int) (x8 : Int) (l12 : (List PlanRule)) (l16 : (List Int)) (k77 : Nat) : (Unit) → Option ((Unit) ⊕ (Int)) := fun _ =>
  (idx l6 (k77 : Int)).bind fun x81 =>
  (mPlanBroken_1 x81 x7 x8 l12 l16).bind fun x91 =>
  if x91 = true then (
  some (.inr (k77 : Int)))
  else (
  some (.inl ()))

/-- slices.IndexFunc[[]fishplate/plan.Rule,fishplate/plan.Rule] -/
noncomputable def mSlicesIndexFunc_3 (l6 : (List PlanRule)) (x7 : Int) (x8 : Int) (l12 : (List PlanRule)) (l16 : (List Int)) : Option (Int) :=
  (forM (mSlicesIndexFunc_3_L58 l6 x7 x8 l12 l16) l6.length 0 ()).bind fun t => Sum.elim (fun _ =>
  some (-1)) (fun q => some q) t

/-- fishplate/plan.Broken -/
noncomputable def mPlanBroken (s1 : PlanPeriodic) (l8 : (List Int)) : Option (Int × Int) :=
  (mPlanCheckTimes s1 l8).bind fun x22 =>
  if x22 ≠ 0 then (
  some (0, x22))
  else (
  (mSlicesIndexFunc_3 s1.Rules s1.Period s1.Events s1.Rules l8).bind fun x25 =>
  some (x25, 0))

/-- slices.Clone[[]int,int] -/
noncomputable def mSlicesClone (l4 : (List Int)) : Option ((List Int)) :=
  (room 8 l4.length).bind fun _ => some l4

noncomputable def mPlanCost_2_L84 (l8 : (List Int)) (s1 : PlanPeriodic) (k132 : Nat) : (Int) → Option (Int) := fun x131 =>
  (idx s1.Rules (k132 : Int)).bind fun x135 =>
  (mPlanGap_2 s1 x135 l8).bind fun x151 =>
  (chk (x151 - x135.Min)).bind fun _ =>
  (chk (x135.Weight * (x151 - x135.Min))).bind fun _ =>
  (chk (x131 + (x135.Weight * (x151 - x135.Min)))).bind fun _ =>
  some (x131 + (x135.Weight * (x151 - x135.Min)))

/-- fishplate/plan.cost -/
noncomputable def mPlanCost_2 (s1 : PlanPeriodic) (l8 : (List Int)) : Option (Int) :=
  (forS (mPlanCost_2_L84 l8 s1) s1.Rules.length 0 0).bind (fun x131 =>
  some x131)

/-- fishplate/plan.Cost -/
noncomputable def mPlanCost (s1 : PlanPeriodic) (l8 : (List Int)) : Option (Int × Int) :=
  (mPlanCheckTimes s1 l8).bind fun x18 =>
  if x18 ≠ 0 then (
  some (0, x18))
  else (
  (mPlanCost_2 s1 l8).bind fun x21 =>
  some (x21, 0))

noncomputable def mPlanSearchStart_2_L917 (x21 : Int) (k914 : Nat) (k1017 : Nat) : ((List (List Int))) → Option ((List (List Int))) := fun l1014 =>
  if (k914 : Int) ≠ (k1017 : Int) then (
  (chk (x21 - 1)).bind fun _ =>
  (idx l1014 (k914 : Int)).bind fun x1044 =>
  (idx x1044 (k1017 : Int)).bind fun _ =>
  some (put l1014 (k914 : Int) (put x1044 (k1017 : Int) (x21 - 1))))
  else (
  some l1014)

noncomputable def mPlanSearchStart_2_L566 (x21 : Int) (x22 : Int) (k914 : Nat) : ((List (List Int))) → Option ((List (List Int))) := fun l911 =>
  (chk x22).bind fun _ =>
  (forS (mPlanSearchStart_2_L917 x21 k914) ((x22).toNat) 0 l911).bind (fun l1014 =>
  (idx l1014 (k914 : Int)).bind fun x1065 =>
  (idx x1065 0).bind fun _ =>
  some (put l1014 (k914 : Int) (put x1065 0 0)))

/-- (*fishplate/plan.search).start -/
noncomputable def mPlanSearchStart_2 (x21 : Int) (x22 : Int) (_l26 : (List PlanRule)) (_x27 : Int) (_x28 : Int) (_l32 : (List PlanRule)) (_x33 : Int) (_l34 : (List Int)) (_l35 : (List Bool)) (_l36 : (List Int)) : Option ((List (List Int))) :=
  (chk x22).bind fun _ =>
  (forS (mPlanSearchStart_2_L566 x21 x22) ((x22).toNat) 0 (List.replicate 8 (List.replicate 8 (0 : Int)))).bind (fun l911 =>
  some l911)

noncomputable def mPlanBest_1_L437 (l29 : (List PlanRule)) (l39 : (List Int)) (l40 : (List Bool)) (x24 : Int) (k701 : Nat) : ((Option (List (List Int))) × Int) → Option ((Option (List (List Int))) × Int) := unc2 fun q697 x700 =>
  (idx l29 (k701 : Int)).bind fun x704 =>
  (idx l40 (k701 : Int)).bind fun x715 =>
  if x715 = true then (
  some (q697, x700))
  else (
  (q697).bind fun y781 =>
  (idx y781 x704.To).bind fun x788 =>
  (idx x788 x704.From).bind fun x798 =>
  (chk (-x798)).bind fun _ =>
  (idx l39 (k701 : Int)).bind fun x809 =>
  (chk (x809 * x24)).bind fun _ =>
  (chk ((-x798) + (x809 * x24))).bind fun _ =>
  (chk (((-x798) + (x809 * x24)) - x704.Min)).bind fun _ =>
  (chk (x704.Weight * (max 0 (((-x798) + (x809 * x24)) - x704.Min)))).bind fun _ =>
  (chk (x700 + (x704.Weight * (max 0 (((-x798) + (x809 * x24)) - x704.Min))))).bind fun _ =>
  some ((some y781), x700 + (x704.Weight * (max 0 (((-x798) + (x809 * x24)) - x704.Min)))))

/-- fishplate/plan.Best-1 -/
noncomputable def mPlanBest_1 (q21 : (Option (List (List Int)))) (x24 : Int) (_x25 : Int) (l29 : (List PlanRule)) (x30 : Int) (_x31 : Int) (_x32 : Int) (_l36 : (List PlanRule)) (l37 : (List Int)) (l39 : (List Int)) (l40 : (List Bool)) : Option (Bool) :=
  if l37.isEmpty = true then (
  some false)
  else (
  (forS (mPlanBest_1_L437 l29 l39 l40 x24) l29.length 0 (q21, 0)).bind (unc2 fun _ x700 =>
  some (decide (x30 < x700))))

noncomputable def mPlanSearchChoices_2_L732 (s24 : PlanRule) (x25 : Int) (y512 : (List (List Int))) : (Int × (List Int)) → Option ((Int × (List Int)) ⊕ ((List Int))) := unc2 fun x856 l857 =>
  (chk (x856 * x25)).bind fun _ =>
  (chk (s24.Max - (x856 * x25))).bind fun _ =>
  (idx y512 s24.To).bind fun x883 =>
  (idx x883 s24.From).bind fun x893 =>
  (chk (-x893)).bind fun _ =>
  if (-x893) ≤ (s24.Max - (x856 * x25)) then (
  (room 8 (l857.length + 1)).bind fun _ =>
  (chk (x856 + 1)).bind fun _ =>
  some (.inl (x856 + 1, l857 ++ [x856])))
  else (
  some (.inr l857))

/-- (*fishplate/plan.search).choices -/
noncomputable def mPlanSearchChoices_2 (q21 : (Option (List (List Int)))) (s24 : PlanRule) (x25 : Int) (_x26 : Int) (_l30 : (List PlanRule)) (_x31 : Int) (_x32 : Int) (_l36 : (List PlanRule)) (_x37 : Int) (_l38 : (List Int)) (_l39 : (List Bool)) (_l40 : (List Int)) : Option ((List Int)) :=
  (q21).bind fun y512 =>
  (idx y512 s24.From).bind fun x519 =>
  (idx x519 s24.To).bind fun x529 =>
  (chk (x529 - s24.Min)).bind fun _ =>
  (mPlanFloor (x529 - s24.Min) x25).bind fun x540 =>
  (chk (-x540)).bind fun _ =>
  (loopM (mPlanSearchChoices_2_L732 s24 x25 y512) (((-x540), []) : Int × (List Int))).bind (fun l730 =>
  some l730)

noncomputable def mPlanCheapest_1_L3970 (x9 : Int) (l20 : (List Int)) (x10 : Int) (k3967 : Nat) (k4494 : Nat) : (Int × (Option (List (List Int)))) → Option (Int × (Option (List (List Int)))) := unc2 fun x4490 q4491 =>
  ((shN (k3967 : Int)).bind fun _ =>
  if (andI .i64 (shrI .i64 x9 (k3967 : Int)) 1) = 1 then (
  (shN (k4494 : Int)).bind fun _ =>
  some (decide ((andI .i64 (shrI .i64 x9 (k4494 : Int)) 1) = 0)))
  else (
  some false)).bind (fun x4502 =>
  if x4502 = true then (
  if 0 < x10 then (
  (q4491).bind fun y4570 =>
  (idx y4570 (k4494 : Int)).bind fun x4577 =>
  (idx x4577 (k3967 : Int)).bind fun x4587 =>
  (idx l20 (k3967 : Int)).bind fun x4597 =>
  (idx l20 (k4494 : Int)).bind fun x4613 =>
  (chk (x4597 - x4613)).bind fun _ =>
  (chk (x4587 - (x4597 - x4613))).bind fun _ =>
  some (min x4490 (x4587 - (x4597 - x4613)), (some y4570)))
  else (
  (q4491).bind fun y4692 =>
  (idx y4692 (k3967 : Int)).bind fun x4699 =>
  (idx x4699 (k4494 : Int)).bind fun x4709 =>
  (idx l20 (k4494 : Int)).bind fun x4719 =>
  (idx l20 (k3967 : Int)).bind fun x4735 =>
  (chk (x4719 - x4735)).bind fun _ =>
  (chk (x4709 - (x4719 - x4735))).bind fun _ =>
  some (min x4490 (x4709 - (x4719 - x4735)), (some y4692))))
  else (
  some (x4490, q4491)))

noncomputable def mPlanCheapest_1_L2389 (x9 : Int) (l20 : (List Int)) (x10 : Int) (k3967 : Nat) : (Int × (Option (List (List Int)))) → Option (Int × (Option (List (List Int)))) := unc2 fun x3963 q3964 =>
  (forS (mPlanCheapest_1_L3970 x9 l20 x10 k3967) l20.length 0 (x3963, q3964)).bind (unc2 fun x4490 q4491 =>
  some (x4490, q4491))

/-- fishplate/plan.cheapest-1 -/
noncomputable def mPlanCheapest_1 (x9 : Int) (x10 : Int) (x11 : Int) (_x12 : Int) (_l16 : (List PlanRule)) (q17 : (Option (List (List Int)))) (l20 : (List Int)) : Option (Int × (Option (List (List Int)))) :=
  (forS (mPlanCheapest_1_L2389 x9 l20 x10) l20.length 0 (x11, q17)).bind (unc2 fun x3963 q3964 =>
  some (x3963, q3964))

noncomputable def mPlanCheapest_2_L263 (l18 : (List Int)) (x14 : Int) (x15 : Int) (k425 : Nat) : (Int × (List Int)) → Option (Int × (List Int)) := unc2 fun x422 l423 =>
  (shN (k425 : Int)).bind fun _ =>
  if (andI .i64 (shrI .i64 x14 (k425 : Int)) 1) = 1 then (
  (idx l423 (k425 : Int)).bind fun x430 =>
  (chk (x430 + x15)).bind fun _ =>
  (idx l423 (k425 : Int)).bind fun _ =>
  (idx l18 (k425 : Int)).bind fun x483 =>
  (chk (x15 * x483)).bind fun _ =>
  (chk (x422 + (x15 * x483))).bind fun _ =>
  some (x422 + (x15 * x483), put l423 (k425 : Int) (x430 + x15)))
  else (
  some (x422, l423))

/-- fishplate/plan.cheapest-2 -/
noncomputable def mPlanCheapest_2 (x14 : Int) (x15 : Int) (x16 : Int) (l17 : (List Int)) (l18 : (List Int)) : Option (Int × (List Int)) :=
  (forS (mPlanCheapest_2_L263 l18 x14 x15) l17.length 0 (x16, l17)).bind (unc2 fun x422 l423 =>
  some (x422, l423))

noncomputable def mPlanCheapest_L9483 (l5620 : (List Int)) (x9372 : Int) (k9527 : Nat) : (Int) → Option (Int) := fun x9526 =>
  (shN (k9527 : Int)).bind fun _ =>
  if (andI .i64 (shrI .i64 x9372 (k9527 : Int)) 1) = 1 then (
  (idx l5620 (k9527 : Int)).bind fun x9532 =>
  (chk (x9526 + x9532)).bind fun _ =>
  some (x9526 + x9532))
  else (
  some x9526)

noncomputable def mPlanCheapest_L8966 (s1 : PlanPeriodic) (l5620 : (List Int)) : (Bool × Int × Int × (Option (List (List Int))) × (List Int)) → Option ((Bool × Int × Int × (Option (List (List Int))) × (List Int)) ⊕ ((Bool × Int × (Option (List (List Int))) × (List Int)) ⊕ (Int × (List Int)))) := unc5 fun x9371 x9372 x9373 q9374 l9377 =>
  (shN s1.Events).bind fun _ =>
  if x9372 < (shlI .i64 1 s1.Events) then (
  ((forS (mPlanCheapest_L9483 l5620 x9372) l9377.length 0 0).bind (fun x9526 =>
  (if x9526 < 0 then (
  some 1)
  else (
  some (-1))).bind (fun x9552 =>
  (mPlanCheapest_1 x9372 x9552 s1.Period s1.Events s1.Rules q9374 l9377).bind (unc2 fun x9555 q9556 =>
  if 0 < x9555 then (
  (chk (x9552 * x9555)).bind fun _ =>
  (mPlanCheapest_2 x9372 (x9552 * x9555) x9373 l9377 l5620).bind (unc2 fun x9564 l9565 =>
  some (true, x9564, q9556, l9565)))
  else (
  some (x9371, x9373, q9556, l9377)))))).bind (unc4 fun x9475 x9476 q9477 l9480 =>
  (chk (x9372 + 2)).bind fun _ =>
  some (.inl (x9475, x9372 + 2, x9476, q9477, l9480))))
  else (
  some (.inr (.inl (x9371, x9373, q9374, l9377))))

noncomputable def mPlanCheapest_L7727 (s1 : PlanPeriodic) (l5620 : (List Int)) : (Bool × Int × (Option (List (List Int))) × (List Int)) → Option ((Bool × Int × (Option (List (List Int))) × (List Int)) ⊕ (Int × (List Int))) := unc4 fun x8958 x8959 q8960 l8963 =>
  if x8958 = true then (
  loopM (mPlanCheapest_L8966 s1 l5620) (false, 2, x8959, q8960, l8963))
  else (
  some (.inr (x8959, l8963)))

noncomputable def mPlanCheapest_L5112 (s1 : PlanPeriodic) (l11 : (List Int)) (l5015 : (List Int)) (k5622 : Nat) : (Int × (List Int)) → Option (Int × (List Int)) := unc2 fun x5619 l5620 =>
  (idx s1.Rules (k5622 : Int)).bind fun x5625 =>
  (idx l5620 x5625.To).bind fun x5671 =>
  (chk (x5671 + x5625.Weight)).bind fun _ =>
  (idx l5620 x5625.To).bind fun _ =>
  (idx (put l5620 x5625.To (x5671 + x5625.Weight)) x5625.From).bind fun x5741 =>
  (chk (x5741 - x5625.Weight)).bind fun _ =>
  (idx (put l5620 x5625.To (x5671 + x5625.Weight)) x5625.From).bind fun _ =>
  (idx l5015 x5625.To).bind fun x5824 =>
  (idx l5015 x5625.From).bind fun x5840 =>
  (chk (x5824 - x5840)).bind fun _ =>
  (idx l11 (k5622 : Int)).bind fun x5857 =>
  (chk (x5857 * s1.Period)).bind fun _ =>
  (chk ((x5824 - x5840) + (x5857 * s1.Period))).bind fun _ =>
  (chk (((x5824 - x5840) + (x5857 * s1.Period)) - x5625.Min)).bind fun _ =>
  (chk (x5625.Weight * (((x5824 - x5840) + (x5857 * s1.Period)) - x5625.Min))).bind fun _ =>
  (chk (x5619 + (x5625.Weight * (((x5824 - x5840) + (x5857 * s1.Period)) - x5625.Min)))).bind fun _ =>
  some (x5619 + (x5625.Weight * (((x5824 - x5840) + (x5857 * s1.Period)) - x5625.Min)), put (put l5620 x5625.To (x5671 + x5625.Weight)) x5625.From (x5741 - x5625.Weight))

noncomputable def mPlanCheapest_L4813  (k5017 : Nat) : ((Option (List (List Int))) × (List Int)) → Option ((Option (List (List Int))) × (List Int)) := unc2 fun q5012 l5015 =>
  (q5012).bind fun y5066 =>
  (idx y5066 (k5017 : Int)).bind fun x5073 =>
  (idx x5073 0).bind fun x5083 =>
  (chk (-x5083)).bind fun _ =>
  (idx l5015 (k5017 : Int)).bind fun _ =>
  some ((some y5066), put l5015 (k5017 : Int) (-x5083))

/-- fishplate/plan.cheapest -/
noncomputable def mPlanCheapest (s1 : PlanPeriodic) (q5 : (Option (List (List Int)))) (l11 : (List Int)) : Option (Int × (List Int)) :=
  (mkLen 8 s1.Events).bind fun m4798 =>
  (mkLen 8 s1.Events).bind fun m4805 =>
  (forS mPlanCheapest_L4813 ((List.replicate m4798 (0 : Int)).length) 0 (q5, List.replicate m4798 (0 : Int))).bind (unc2 fun q5012 l5015 =>
  (forS (mPlanCheapest_L5112 s1 l11 l5015) s1.Rules.length 0 (0, List.replicate m4805 (0 : Int))).bind (unc2 fun x5619 l5620 =>
  (loopM (mPlanCheapest_L7727 s1 l5620) (true, x5619, q5012, l5015)).bind (unc2 fun x7723 l7724 =>
  some (x7723, l7724))))

/-- fishplate/plan.Best-2 -/
noncomputable def mPlanBest_2 (q14 : (Option (List (List Int)))) (x17 : Int) (x18 : Int) (l22 : (List PlanRule)) (x23 : Int) (l24 : (List Int)) (l25 : (List Int)) : Option (Int × (List Int)) :=
  (mPlanCheapest (⟨x17, x18, l22⟩ : PlanPeriodic) q14 l24).bind (unc2 fun x61 l62 =>
  (if l25.isEmpty = true then (
  some true)
  else (
  if x61 < x23 then (
  some true)
  else (
  if x61 = x23 then (
  (mSlicesCompare l62 l25).bind fun x82 =>
  some (decide (x82 < 0)))
  else (
  some false)))).bind (fun x77 =>
  if x77 = true then (
  (some? l62).bind fun _ =>
  some (x61, l62))
  else (
  some (x23, l25))))

noncomputable def mPlanSearchRun_2_L2221 (l29 : (List PlanRule)) (l35 : (List PlanRule)) (q21 : (Option (List (List Int)))) (x24 : Int) (x25 : Int) (x30 : Int) (x31 : Int) (l2085 : (List Int)) (x2081 : Int) (x2192 : PlanRule) (rcmPlanSearchRun_2 : ((Option (List (List Int)))) → (Int) → (Int) → ((List PlanRule)) → (Int) → (Int) → ((List PlanRule)) → (Int) → ((List Int)) → ((List Bool)) → ((List Int)) → Option (Int × (List Int) × (List Bool) × (List Int))) (k2457 : Nat) : (Int × (List Int) × (List Bool) × (List Int)) → Option (Int × (List Int) × (List Bool) × (List Int)) := unc4 fun x2450 l2451 l2453 l2455 =>
  (idx l2085 (k2457 : Int)).bind fun x2460 =>
  ((chk (x2460 * x24)).bind fun _ =>
  (chk (x2192.Min - (x2460 * x24))).bind fun _ =>
  (chk (x2460 * x24)).bind fun _ =>
  (chk (x2192.Max - (x2460 * x24))).bind fun _ =>
  (mPlanBoundsBetween q21 x25 x2192.From x2192.To (x2192.Min - (x2460 * x24)) (x2192.Max - (x2460 * x24))).bind (unc2 fun q2514 x2515 =>
  some (q2514, x2515))).bind (unc2 fun q2494 x2497 =>
  if x2497 = true then (
  (idx l2451 x2081).bind fun _ =>
  (rcmPlanSearchRun_2 q2494 x24 x25 l29 x30 x31 l35 x2450 (put l2451 x2081 x2460) l2453 l2455).bind (unc4 fun x2540 l2541 l2542 l2543 =>
  some (x2540, l2541, l2542, l2543)))
  else (
  some (x2450, l2451, l2453, l2455)))

noncomputable def mPlanSearchRun_2_L1914 (l29 : (List PlanRule)) (l35 : (List PlanRule)) (l37 : (List Int)) (l38 : (List Bool)) (l39 : (List Int)) (q21 : (Option (List (List Int)))) (x24 : Int) (x25 : Int) (x30 : Int) (x31 : Int) (x36 : Int) (k2086 : Nat) : (Int × (List Int)) → Option ((Int × (List Int)) ⊕ (Int × (List Int) × (List Bool) × (List Int))) := unc2 fun x2081 l2085 =>
  (idx l29 (k2086 : Int)).bind fun x2090 =>
  (idx l38 (k2086 : Int)).bind fun x2101 =>
  if x2101 = true then (
  (mPlanSearchChoices_2 q21 x2090 x24 x25 l29 x30 x31 l35 x36 l37 l38 l39).bind fun l2118 =>
  ((if x2081 < 0 then (
  some true)
  else (
  some (decide ((l2118.length : Int) < (l2085.length : Int))))).bind (fun x2156 =>
  if x2156 = true then (
  some ((k2086 : Int), l2118, l2118))
  else (
  some (x2081, l2085, l2118)))).bind (unc3 fun x2143 l2147 l2151 =>
  if (l2151.length : Int) = 0 then (
  some (.inr (x36, l37, l38, l39)))
  else (
  some (.inl (x2143, l2147)))))
  else (
  some (.inl (x2081, l2085)))

/-- (*fishplate/plan.search).run -/
noncomputable def mPlanSearchRun_2 : Nat → ((Option (List (List Int)))) → (Int) → (Int) → ((List PlanRule)) → (Int) → (Int) → ((List PlanRule)) → (Int) → ((List Int)) → ((List Bool)) → ((List Int)) → Option (Int × (List Int) × (List Bool) × (List Int))
  | 0 => fun _ _ _ _ _ _ _ _ _ _ _ => none
  | N + 1 => fun q21 x24 x25 l29 x30 x31 l35 x36 l37 l38 l39 =>
  (mPlanBest_1 q21 x30 x31 l35 x36 x24 x25 l29 l39 l37 l38).bind fun x1909 =>
  if x1909 = true then (
  some (x36, l37, l38, l39))
  else (
  (forM (mPlanSearchRun_2_L1914 l29 l35 l37 l38 l39 q21 x24 x25 x30 x31 x36) l29.length 0 (((-1), []) : Int × (List Int))).bind fun t => Sum.elim (unc2 fun x2081 l2085 =>
  if x2081 < 0 then (
  (mPlanBest_2 q21 x30 x31 l35 x36 l37 l39).bind (unc2 fun x2182 l2183 =>
  some (x2182, l37, l38, l2183)))
  else (
  (idx l29 x2081).bind fun x2192 =>
  (idx l38 x2081).bind fun _ =>
  (forS (mPlanSearchRun_2_L2221 l29 l35 q21 x24 x25 x30 x31 l2085 x2081 x2192 (mPlanSearchRun_2 N)) l2085.length 0 (x36, l37, put l38 x2081 false, l39)).bind (unc4 fun x2450 l2451 l2453 l2455 =>
  (idx l2453 x2081).bind fun _ =>
  some (x2450, l2451, put l2453 x2081 true, l2455)))) (fun q => some q) t)

/-- fishplate/plan.Best -/
noncomputable def mPlanBest (s1 : PlanPeriodic) : Option (Int × Int × (List Int)) :=
  (mPlanCheckPeriodic s1).bind fun x73 =>
  if x73 ≠ 0 then (
  some (0, x73, []))
  else (
  if 6 < s1.Events then (
  some (0, 4, []))
  else (
  (mPlanNewSearch s1).bind (unc5 fun x77 x78 l79 l80 l81 =>
  (mPlanSearchStart_2 x77 x78 l79 s1.Period s1.Events s1.Rules 0 l80 l81 []).bind fun l100 =>
  (lim (fun N => mPlanSearchRun_2 N (some l100) x77 x78 l79 s1.Period s1.Events s1.Rules 0 l80 l81 [])).bind (unc4 fun x111 _ _ l114 =>
  if l114.isEmpty = true then (
  some (0, 9, []))
  else (
  some (x111, 0, l114))))))

noncomputable def mFishkeep2PlanKept_L523 (s1 : PlanPeriodic) (x5 : Int) (k695 : Nat) : ((List Int)) → Option ((List Int)) := fun l694 =>
  (idx l694 (k695 : Int)).bind fun x737 =>
  (ne0 s1.Period).bind fun _ =>
  (chk ((Int.tmod x5 s1.Period) + s1.Period)).bind fun _ =>
  (ne0 s1.Period).bind fun _ =>
  (chk (x737 + (Int.tmod ((Int.tmod x5 s1.Period) + s1.Period) s1.Period))).bind fun _ =>
  (ne0 s1.Period).bind fun _ =>
  (idx l694 (k695 : Int)).bind fun _ =>
  some (put l694 (k695 : Int) (Int.tmod (x737 + (Int.tmod ((Int.tmod x5 s1.Period) + s1.Period) s1.Period)) s1.Period))

/-- fishplate/fishkeep2.PlanKept -/
noncomputable def mFishkeep2PlanKept (s1 : PlanPeriodic) (x5 : Int) (l9 : (List Int)) : Option (Bool) :=
  (mFishkeep2AwakePlan).bind fun x418 =>
  if x418 = true then (
  (mFishkeep2Periods).bind fun x421 =>
  if x421 = true then (
  (mFishref2PeriodicFault s1).bind fun x424 =>
  if x424 ≠ 0 then (
  some true)
  else (
  (mPlanSolve s1).bind (unc2 fun x427 l428 =>
  (if (l9.length : Int) = s1.Events then (
  (mFishref2TimesFault s1 l9).bind fun x452 =>
  if x452 = 0 then (
  (mFishref2BrokenOf s1 l9).bind fun x455 =>
  if x455 < 0 then (
  if x427 ≠ 0 then (
  some true)
  else (
  (mSlicesCompare l9 l428).bind fun x459 =>
  some (decide (x459 < 0))))
  else (
  some false))
  else (
  some false))
  else (
  some false)).bind (fun x449 =>
  if x449 = true then (
  some false)
  else (
  if x427 ≠ 0 then (
  (if x427 = 9 then (
  some (decide ((l428.length : Int) = 0)))
  else (
  some false)).bind (fun x466 =>
  some x466))
  else (
  (mPlanBroken s1 l428).bind (unc2 fun x469 x470 =>
  (if x470 ≠ 0 then (
  some true)
  else (
  if x469 ≠ (-1) then (
  some true)
  else (
  if (l428.length : Int) ≠ s1.Events then (
  some true)
  else (
  (idx l428 0).bind fun x498 =>
  some (decide (x498 ≠ 0)))))).bind (fun x493 =>
  if x493 = true then (
  some false)
  else (
  (mSlicesClone l428).bind fun l515 =>
  (forS (mFishkeep2PlanKept_L523 s1 x5) l515.length 0 l515).bind (fun l694 =>
  (mPlanBroken s1 l694).bind (unc2 fun x776 x777 =>
  (mPlanCost s1 l428).bind (unc2 fun x779 x780 =>
  (mPlanCost s1 l694).bind (unc2 fun x782 x783 =>
  (if x777 ≠ 0 then (
  some true)
  else (
  if x780 ≠ 0 then (
  some true)
  else (
  if x783 ≠ 0 then (
  some true)
  else (
  if x776 ≠ (-1) then (
  some true)
  else (
  some (decide (x779 ≠ x782))))))).bind (fun x791 =>
  if x791 = true then (
  some false)
  else (
  if 6 < s1.Events then (
  some true)
  else (
  (mPlanBest s1).bind (unc3 fun x799 x800 l801 =>
  (mPlanCost s1 l801).bind (unc2 fun x810 x811 =>
  (if x800 = 0 then (
  if x811 = 0 then (
  if x799 = x810 then (
  some (decide (x799 ≤ x779)))
  else (
  some false))
  else (
  some false))
  else (
  some false)).bind (fun x818 =>
  some x818)))))))))))))))))))
  else (
  some false))
  else (
  some false)

end Go.Proofs.Ytdphlkddelnaiaa
