/- The models of the functions, as the extractor printed them. -/
import Derived.Test.YtakehdnblmonlaaXA
import Derived.Test.YtakehdnblmonlaaXJ
set_option linter.unusedVariables false
set_option linter.unusedSimpArgs false
namespace Go.Proofs.Ytakehdnblmonlaa
open Go.RowKit Go.Fp

structure MendLink where
  From : Int
  To : Int
  Len : Int
  Back : Int
  deriving DecidableEq
def rMendLink : RT MendLink := (RT.cat (RT.on (RT.int .i64) MendLink.From) (RT.cat (RT.on (RT.int .i64) MendLink.To) (RT.cat (RT.on (RT.int .i64) MendLink.Len) (RT.on (RT.int .i64) MendLink.Back))))
structure MendRound where
  Period : Int
  Plan : (List Int)
  Links : (List MendLink)
def rMendRound : RT MendRound := (RT.cat (RT.on (RT.int .i64) MendRound.Period) (RT.cat (RT.on (RT.list (RT.int .i64)) MendRound.Plan) (RT.on (RT.list rMendLink) MendRound.Links)))
structure MendFirst where
  Event : Int
  Period : Int
  Secs : Int
  deriving DecidableEq
def rMendFirst : RT MendFirst := (RT.cat (RT.on (RT.int .i64) MendFirst.Event) (RT.cat (RT.on (RT.int .i64) MendFirst.Period) (RT.on (RT.int .i64) MendFirst.Secs)))
structure MendArc where
  From : Int
  To : Int
  Len : Int
  deriving DecidableEq
def rMendArc : RT MendArc := (RT.cat (RT.on (RT.int .i64) MendArc.From) (RT.cat (RT.on (RT.int .i64) MendArc.To) (RT.on (RT.int .i64) MendArc.Len)))
structure MendChoice where
  Ways : (List (List MendArc))
def rMendChoice : RT MendChoice := (RT.on (RT.list (RT.list rMendArc)) MendChoice.Ways)
structure MendGraph where
  Ready : (List Int)
  Last : (List Int)
  Due : (List Int)
  Arcs : (List MendArc)
  Choices : (List MendChoice)
def rMendGraph : RT MendGraph := (RT.cat (RT.on (RT.list (RT.int .i64)) MendGraph.Ready) (RT.cat (RT.on (RT.list (RT.int .i64)) MendGraph.Last) (RT.cat (RT.on (RT.list (RT.int .i64)) MendGraph.Due) (RT.cat (RT.on (RT.list rMendArc) MendGraph.Arcs) (RT.on (RT.list rMendChoice) MendGraph.Choices)))))
structure MendSolver where
  times : (List Int)
  last : (List Int)
  outs : (List (List MendArc))
def rMendSolver : RT MendSolver := (RT.cat (RT.on (RT.list (RT.int .i64)) MendSolver.times) (RT.cat (RT.on (RT.list (RT.int .i64)) MendSolver.last) (RT.on (RT.list (RT.list rMendArc)) MendSolver.outs)))

/-- fishplate/mend.within -/
noncomputable def mMendWithin (x1 : Int) (x2 : Int) (x3 : Int) : Option (Bool) :=
  (if x2 ≤ x1 then (
  some (decide (x1 ≤ x3)))
  else (
  some false)).bind (fun x14 =>
  some x14)

noncomputable def mMendCheckArcs_L104 (s1 : MendGraph) (l20 : (List MendArc)) (k142 : Nat) : (Unit) → Option ((Unit) ⊕ (Int)) := fun _ =>
  (idx l20 (k142 : Int)).bind fun x146 =>
  ((chk ((s1.Ready.length : Int) - 1)).bind fun _ =>
  (mMendWithin x146.From 0 ((s1.Ready.length : Int) - 1)).bind fun x169 =>
  if x169 = true then (
  (chk ((s1.Ready.length : Int) - 1)).bind fun _ =>
  (mMendWithin x146.To 0 ((s1.Ready.length : Int) - 1)).bind fun x173 =>
  some (!x173))
  else (
  some true)).bind (fun x166 =>
  if x166 = true then (
  some (.inr 3))
  else (
  if x146.From = x146.To then (
  some (.inr 1))
  else (
  (mMendWithin x146.Len (-28800) 28800).bind fun x179 =>
  if x179 = true then (
  some (.inl ()))
  else (
  some (.inr 2)))))

/-- fishplate/mend.checkArcs -/
noncomputable def mMendCheckArcs (s1 : MendGraph) (l20 : (List MendArc)) : Option (Int) :=
  (forM (mMendCheckArcs_L104 s1 l20) l20.length 0 ()).bind fun t => Sum.elim (fun _ =>
  some 0) (fun q => some q) t

noncomputable def mMendCheckGraph_L614 (s1 : MendGraph) (x598 : MendChoice) (k635 : Nat) : (Unit) → Option ((Unit) ⊕ ((Unit) ⊕ (Int))) := fun _ =>
  (idx x598.Ways (k635 : Int)).bind fun x639 =>
  if 4 < (x639.length : Int) then (
  some (.inr (.inr 4)))
  else (
  (mMendCheckArcs s1 x639).bind fun x655 =>
  if x655 ≠ 0 then (
  some (.inr (.inr x655)))
  else (
  some (.inl ())))

noncomputable def mMendCheckGraph_L532 (s1 : MendGraph) (k594 : Nat) : (Unit) → Option ((Unit) ⊕ (Int)) := fun _ =>
  (idx s1.Choices (k594 : Int)).bind fun x598 =>
  if 3 < (x598.Ways.length : Int) then (
  some (.inr 4))
  else (
  (forM (mMendCheckGraph_L614 s1 x598) x598.Ways.length 0 ()).bind fun t => Sum.elim (fun _ =>
  some (.inl ())) (fun q => some q) t)

noncomputable def mMendCheckGraph_L357 (s1 : MendGraph) (k442 : Nat) : (Unit) → Option ((Unit) ⊕ (Int)) := fun _ =>
  ((idx s1.Ready (k442 : Int)).bind fun x488 =>
  (mMendWithin x488 0 28800).bind fun x498 =>
  if x498 = true then (
  (idx s1.Last (k442 : Int)).bind fun x501 =>
  (mMendWithin x501 (-1) 28800).bind fun x511 =>
  if x511 = true then (
  (idx s1.Due (k442 : Int)).bind fun x514 =>
  (mMendWithin x514 (-1) 28800).bind fun x524 =>
  some (!x524))
  else (
  some true))
  else (
  some true)).bind (fun x486 =>
  if x486 = true then (
  some (.inr 2))
  else (
  some (.inl ())))

/-- fishplate/mend.CheckGraph -/
noncomputable def mMendCheckGraph (s1 : MendGraph) : Option (Int) :=
  (if 24 < (s1.Ready.length : Int) then (
  some true)
  else (
  if 250 < (s1.Arcs.length : Int) then (
  some true)
  else (
  some (decide (300 < (s1.Choices.length : Int)))))).bind (fun x345 =>
  if x345 = true then (
  some 4)
  else (
  (if (s1.Last.length : Int) ≠ (s1.Ready.length : Int) then (
  some true)
  else (
  some (decide ((s1.Due.length : Int) ≠ (s1.Ready.length : Int))))).bind (fun x353 =>
  if x353 = true then (
  some 1)
  else (
  (forM (mMendCheckGraph_L357 s1) s1.Ready.length 0 ()).bind fun t => Sum.elim (fun _ =>
  (mMendCheckArcs s1 s1.Arcs).bind fun x529 =>
  if x529 ≠ 0 then (
  some x529)
  else (
  (forM (mMendCheckGraph_L532 s1) s1.Choices.length 0 ()).bind fun t => Sum.elim (fun _ =>
  some 0) (fun q => some q) t)) (fun q => some q) t))))

noncomputable def mMendCheckPick_L94 (s1 : MendGraph) (l20 : (List Int)) (k124 : Nat) : (Unit) → Option ((Unit) ⊕ (Int)) := fun _ =>
  (idx l20 (k124 : Int)).bind fun x128 =>
  (idx s1.Choices (k124 : Int)).bind fun x138 =>
  (mMendWithin x128 0 (x138.Ways.length : Int)).bind fun x151 =>
  if x151 = true then (
  some (.inl ()))
  else (
  some (.inr 2))

/-- fishplate/mend.checkPick -/
noncomputable def mMendCheckPick (s1 : MendGraph) (l20 : (List Int)) : Option (Int) :=
  (mMendCheckGraph s1).bind fun x90 =>
  if x90 ≠ 0 then (
  some x90)
  else (
  if (l20.length : Int) ≠ (s1.Choices.length : Int) then (
  some 1)
  else (
  (forM (mMendCheckPick_L94 s1 l20) l20.length 0 ()).bind fun t => Sum.elim (fun _ =>
  some 0) (fun q => some q) t))

/-- slices.Clone[[]int,int] -/
noncomputable def mSlicesClone (l4 : (List Int)) : Option ((List Int)) :=
  (room 8 l4.length).bind fun _ => some l4

/-- slices.Clone[[][]fishplate/mend.Arc,[]fishplate/mend.Arc] -/
noncomputable def mSlicesClone_2 (l4 : (List (List MendArc))) : Option ((List (List MendArc))) :=
  (room 24 l4.length).bind fun _ => some l4

/-- slices.Clone[[]fishplate/mend.Arc,fishplate/mend.Arc] -/
noncomputable def mSlicesClone_3 (l4 : (List MendArc)) : Option ((List MendArc)) :=
  (room 24 l4.length).bind fun _ => some l4

/-- (*fishplate/mend.solver).with-1 -/
noncomputable def mMendSolverWith_1 (s32 : MendArc) (x33 : Bool) (l37 : (List Int)) (l38 : (List Int)) (l39 : (List Bool)) (l40 : (List Int)) (l42 : (List Int)) (_l43 : (List (List MendArc))) : Option (Bool × (List Int) × (List Bool) × (List Int) × (List Int)) :=
  (idx l42 s32.From).bind fun x497 =>
  (chk (x497 + s32.Len)).bind fun _ =>
  (idx l42 s32.To).bind fun x530 =>
  if (x497 + s32.Len) ≤ x530 then (
  some (x33, l38, l39, l40, l42))
  else (
  (idx l42 s32.To).bind fun _ =>
  (idx l38 s32.To).bind fun x583 =>
  (chk (x583 + 1)).bind fun _ =>
  (idx l38 s32.To).bind fun _ =>
  (if x33 = true then (
  (idx l37 s32.To).bind fun x794 =>
  if x794 < 0 then (
  if (x497 + s32.Len) ≤ 1099511627776 then (
  (idx (put l38 s32.To (x583 + 1)) s32.To).bind fun x806 =>
  some (decide (x806 ≤ 65536)))
  else (
  some false))
  else (
  (idx l37 s32.To).bind fun x822 =>
  if (x497 + s32.Len) ≤ x822 then (
  if (x497 + s32.Len) ≤ 1099511627776 then (
  (idx (put l38 s32.To (x583 + 1)) s32.To).bind fun x834 =>
  some (decide (x834 ≤ 65536)))
  else (
  some false))
  else (
  some false)))
  else (
  some false)).bind (fun x734 =>
  (idx l39 s32.To).bind fun x850 =>
  if x850 = true then (
  some (x734, put l38 s32.To (x583 + 1), l39, l40, put l42 s32.To (x497 + s32.Len)))
  else (
  (idx l39 s32.To).bind fun _ =>
  (room 8 (l40.length + 1)).bind fun _ =>
  some (x734, put l38 s32.To (x583 + 1), put l39 s32.To true, l40 ++ [s32.To], put l42 s32.To (x497 + s32.Len)))))

noncomputable def mMendGreatest_L46 (l5 : (List Int)) (k72 : Nat) : (Int) → Option (Int) := fun x71 =>
  (idx l5 (k72 : Int)).bind fun x75 =>
  some (max x71 x75)

/-- fishplate/mend.greatest[int] -/
noncomputable def mMendGreatest (x1 : Int) (l5 : (List Int)) : Option (Int) :=
  (forS (mMendGreatest_L46 l5) l5.length 0 x1).bind (fun x71 =>
  some x71)

noncomputable def mMendSolverBound_L370 (x351 : (List MendArc)) (k398 : Nat) : (Int) → Option (Int) := fun x397 =>
  (idx x351 (k398 : Int)).bind fun x401 =>
  some (max x397 x401.Len)

noncomputable def mMendSolverBound_L218 (l17 : (List (List MendArc))) (k348 : Nat) : (Int) → Option (Int) := fun x347 =>
  (idx l17 (k348 : Int)).bind fun x351 =>
  (forS (mMendSolverBound_L370 x351) x351.length 0 0).bind (fun x397 =>
  (chk (x347 + x397)).bind fun _ =>
  some (x347 + x397))

/-- (*fishplate/mend.solver).bound -/
noncomputable def mMendSolverBound (_l15 : (List Int)) (l16 : (List Int)) (l17 : (List (List MendArc))) : Option (Int) :=
  (mMendGreatest 0 l16).bind fun x216 =>
  (forS (mMendSolverBound_L218 l17) l17.length 0 x216).bind (fun x347 =>
  some x347)

/-- (*fishplate/mend.solver).with-1 -/
noncomputable def mMendSolverWith_1_2 (s32 : MendArc) (x33 : Bool) (l37 : (List Int)) (l38 : (List Int)) (l39 : (List Bool)) (l40 : (List Int)) (l41 : (List Int)) (_l42 : (List (List MendArc))) : Option (Bool × (List Int) × (List Bool) × (List Int) × (List Int)) :=
  (idx l41 s32.From).bind fun x495 =>
  (chk (x495 + s32.Len)).bind fun _ =>
  (idx l41 s32.To).bind fun x528 =>
  if (x495 + s32.Len) ≤ x528 then (
  some (x33, l38, l39, l40, l41))
  else (
  (idx l41 s32.To).bind fun _ =>
  (idx l38 s32.To).bind fun x581 =>
  (chk (x581 + 1)).bind fun _ =>
  (idx l38 s32.To).bind fun _ =>
  (if x33 = true then (
  (idx l37 s32.To).bind fun x792 =>
  if x792 < 0 then (
  if (x495 + s32.Len) ≤ 1099511627776 then (
  (idx (put l38 s32.To (x581 + 1)) s32.To).bind fun x804 =>
  some (decide (x804 ≤ 65536)))
  else (
  some false))
  else (
  (idx l37 s32.To).bind fun x820 =>
  if (x495 + s32.Len) ≤ x820 then (
  if (x495 + s32.Len) ≤ 1099511627776 then (
  (idx (put l38 s32.To (x581 + 1)) s32.To).bind fun x832 =>
  some (decide (x832 ≤ 65536)))
  else (
  some false))
  else (
  some false)))
  else (
  some false)).bind (fun x732 =>
  (idx l39 s32.To).bind fun x848 =>
  if x848 = true then (
  some (x732, put l38 s32.To (x581 + 1), l39, l40, put l41 s32.To (x495 + s32.Len)))
  else (
  (idx l39 s32.To).bind fun _ =>
  (room 8 (l40.length + 1)).bind fun _ =>
  some (x732, put l38 s32.To (x581 + 1), put l39 s32.To true, l40 ++ [s32.To], put l41 s32.To (x495 + s32.Len)))))

noncomputable def mMendSolverWith_L4329 (l19 : (List Int)) (l2621 : (List (List MendArc))) (x4310 : (List MendArc)) (k4443 : Nat) : (Bool × (List Bool) × (List Int) × (List Int) × (List Int)) → Option (Bool × (List Bool) × (List Int) × (List Int) × (List Int)) := unc5 fun x4436 l4437 l4439 l4440 l4442 =>
  (idx x4310 (k4443 : Int)).bind fun x4446 =>
  (mMendSolverWith_1_2 x4446 x4436 l19 l4440 l4437 l4439 l4442 l2621).bind (unc5 fun x4457 l4458 l4459 l4460 l4461 =>
  some (x4457, l4459, l4460, l4458, l4461))

noncomputable def mMendSolverWith_L3711 (l19 : (List Int)) (l2621 : (List (List MendArc))) (x2930 : Int) : (Bool × (List Bool) × (List Int) × (List Int) × (List Int)) → Option ((Bool × (List Bool) × (List Int) × (List Int) × (List Int)) ⊕ ((Bool × (List Int)) ⊕ ((Option MendSolver) × Bool))) := unc5 fun x4231 l4232 l4234 l4235 l4237 =>
  (if 0 < (l4234.length : Int) then (
  some x4231)
  else (
  some false)).bind (fun x4241 =>
  if x4241 = true then (
  (idx l4234 0).bind fun x4245 =>
  (cutS l4234 1 (l4234.length : Int)).bind fun l4261 =>
  (idx l4232 x4245).bind fun _ =>
  (idx l4237 x4245).bind fun x4292 =>
  if x2930 < x4292 then (
  some (.inr (.inr (none, false))))
  else (
  (idx l2621 x4245).bind fun x4310 =>
  (forS (mMendSolverWith_L4329 l19 l2621 x4310) x4310.length 0 (x4231, put l4232 x4245 false, l4261, l4235, l4237)).bind (unc5 fun x4436 l4437 l4439 l4440 l4442 =>
  some (.inl (x4436, l4437, l4439, l4440, l4442)))))
  else (
  some (.inr (.inl (x4231, l4237)))))

noncomputable def mMendSolverWith_L2776 (l15 : (List MendArc)) (l19 : (List Int)) (l2621 : (List (List MendArc))) (k2894 : Nat) : (Bool × (List Bool) × (List Int) × (List Int) × (List Int)) → Option (Bool × (List Bool) × (List Int) × (List Int) × (List Int)) := unc5 fun x2886 l2887 l2889 l2891 l2893 =>
  (idx l15 (k2894 : Int)).bind fun x2897 =>
  (mMendSolverWith_1 x2897 x2886 l19 l2891 l2887 l2889 l2893 l2621).bind (unc5 fun x2908 l2909 l2910 l2911 l2912 =>
  some (x2908, l2910, l2911, l2909, l2912))

noncomputable def mMendSolverWith_L2336 (l15 : (List MendArc)) (k2622 : Nat) : ((List (List MendArc))) → Option ((List (List MendArc))) := fun l2621 =>
  (idx l15 (k2622 : Int)).bind fun x2625 =>
  (idx l2621 x2625.From).bind fun x2698 =>
  (mSlicesClone_3 x2698).bind fun l2717 =>
  (room 24 (l2717.length + 1)).bind fun _ =>
  (idx l2621 x2625.From).bind fun _ =>
  some (put l2621 x2625.From (l2717 ++ [x2625]))

/-- (*fishplate/mend.solver).with -/
noncomputable def mMendSolverWith (l15 : (List MendArc)) (l19 : (List Int)) (l20 : (List Int)) (l21 : (List (List MendArc))) : Option ((Option MendSolver) × Bool) :=
  ((mSlicesClone l20).bind fun l2321 =>
  (room 24 l21.length).bind fun _ =>
  some (l2321, l21)).bind (unc2 fun l2303 l2304 =>
  (forS (mMendSolverWith_L2336 l15) l15.length 0 l2304).bind (fun l2621 =>
  (mkLen 1 (l2303.length : Int)).bind fun m2760 =>
  (mkLen 8 (l2303.length : Int)).bind fun m2767 =>
  (forS (mMendSolverWith_L2776 l15 l19 l2621) l15.length 0 ((true, List.replicate m2760 (false : Bool), [], List.replicate m2767 (0 : Int), l2303) : Bool × (List Bool) × (List Int) × (List Int) × (List Int))).bind (unc5 fun x2886 l2887 l2889 l2891 l2893 =>
  (mMendSolverBound l19 l2893 l2621).bind fun x2930 =>
  (loopM (mMendSolverWith_L3711 l19 l2621 x2930) (x2886, l2887, l2889, l2891, l2893)).bind fun t => Sum.elim (unc2 fun x3707 l3708 =>
  some ((some (⟨l3708, l19, l2621⟩ : MendSolver)), x3707)) (fun r4492 => some r4492) t)))

noncomputable def mMendStart_L318 (s1 : MendGraph) (l285 : (List Int)) (k385 : Nat) : (Unit) → Option ((Unit) ⊕ ((Option MendSolver) × Bool)) := fun _ =>
  (idx l285 (k385 : Int)).bind fun x389 =>
  ((idx s1.Last (k385 : Int)).bind fun x430 =>
  if 0 ≤ x430 then (
  (idx s1.Last (k385 : Int)).bind fun x441 =>
  some (decide (x441 < x389)))
  else (
  some false)).bind (fun x428 =>
  if x428 = true then (
  some (.inr (none, false)))
  else (
  some (.inl ())))

/-- fishplate/mend.start -/
noncomputable def mMendStart (s1 : MendGraph) : Option ((Option MendSolver) × Bool) :=
  ((mSlicesClone s1.Ready).bind fun l303 =>
  (mkLen 24 (s1.Ready.length : Int)).bind fun m311 =>
  some (l303, List.replicate m311 (([] : List MendArc) : (List MendArc)))).bind (unc2 fun l285 l286 =>
  (forM (mMendStart_L318 s1 l285) l285.length 0 ()).bind fun t => Sum.elim (fun _ =>
  (mMendSolverWith s1.Arcs s1.Last l285 l286).bind (unc2 fun q454 x455 =>
  some (q454, x455))) (fun q => some q) t)

noncomputable def mMendSolverWith_2_L4475 (l2410 : (List Int)) (l2767 : (List (List MendArc))) (x4456 : (List MendArc)) (k4589 : Nat) : (Bool × (List Bool) × (List Int) × (List Int) × (List Int)) → Option (Bool × (List Bool) × (List Int) × (List Int) × (List Int)) := unc5 fun x4582 l4583 l4585 l4586 l4588 =>
  (idx x4456 (k4589 : Int)).bind fun x4592 =>
  (mMendSolverWith_1_2 x4592 x4582 l2410 l4586 l4583 l4585 l4588 l2767).bind (unc5 fun x4603 l4604 l4605 l4606 l4607 =>
  some (x4603, l4605, l4606, l4604, l4607))

noncomputable def mMendSolverWith_2_L3857 (l2410 : (List Int)) (l2767 : (List (List MendArc))) (x3076 : Int) : (Bool × (List Bool) × (List Int) × (List Int) × (List Int)) → Option ((Bool × (List Bool) × (List Int) × (List Int) × (List Int)) ⊕ ((Bool × (List Int)) ⊕ ((Option MendSolver) × Bool))) := unc5 fun x4377 l4378 l4380 l4381 l4383 =>
  (if 0 < (l4380.length : Int) then (
  some x4377)
  else (
  some false)).bind (fun x4387 =>
  if x4387 = true then (
  (idx l4380 0).bind fun x4391 =>
  (cutS l4380 1 (l4380.length : Int)).bind fun l4407 =>
  (idx l4378 x4391).bind fun _ =>
  (idx l4383 x4391).bind fun x4438 =>
  if x3076 < x4438 then (
  some (.inr (.inr (none, false))))
  else (
  (idx l2767 x4391).bind fun x4456 =>
  (forS (mMendSolverWith_2_L4475 l2410 l2767 x4456) x4456.length 0 (x4377, put l4378 x4391 false, l4407, l4381, l4383)).bind (unc5 fun x4582 l4583 l4585 l4586 l4588 =>
  some (.inl (x4582, l4583, l4585, l4586, l4588)))))
  else (
  some (.inr (.inl (x4377, l4383)))))

noncomputable def mMendSolverWith_2_L2922 (l7 : (List MendArc)) (l2410 : (List Int)) (l2767 : (List (List MendArc))) (k3040 : Nat) : (Bool × (List Bool) × (List Int) × (List Int) × (List Int)) → Option (Bool × (List Bool) × (List Int) × (List Int) × (List Int)) := unc5 fun x3032 l3033 l3035 l3037 l3039 =>
  (idx l7 (k3040 : Int)).bind fun x3043 =>
  (mMendSolverWith_1 x3043 x3032 l2410 l3037 l3033 l3035 l3039 l2767).bind (unc5 fun x3054 l3055 l3056 l3057 l3058 =>
  some (x3054, l3056, l3057, l3055, l3058))

noncomputable def mMendSolverWith_2_L2482 (l7 : (List MendArc)) (k2768 : Nat) : ((List (List MendArc))) → Option ((List (List MendArc))) := fun l2767 =>
  (idx l7 (k2768 : Int)).bind fun x2771 =>
  (idx l2767 x2771.From).bind fun x2844 =>
  (mSlicesClone_3 x2844).bind fun l2863 =>
  (room 24 (l2863.length + 1)).bind fun _ =>
  (idx l2767 x2771.From).bind fun _ =>
  some (put l2767 x2771.From (l2863 ++ [x2771]))

/-- (*fishplate/mend.solver).with -/
noncomputable def mMendSolverWith_2 (q1 : (Option MendSolver)) (l7 : (List MendArc)) : Option ((Option MendSolver) × Bool) :=
  ((q1).bind fun y2448 =>
  (mSlicesClone y2448.times).bind fun l2464 =>
  (mSlicesClone_2 y2448.outs).bind fun l2472 =>
  some (y2448.last, l2464, l2472)).bind (unc3 fun l2410 l2411 l2412 =>
  (forS (mMendSolverWith_2_L2482 l7) l7.length 0 l2412).bind (fun l2767 =>
  (mkLen 1 (l2411.length : Int)).bind fun m2906 =>
  (mkLen 8 (l2411.length : Int)).bind fun m2913 =>
  (forS (mMendSolverWith_2_L2922 l7 l2410 l2767) l7.length 0 ((true, List.replicate m2906 (false : Bool), [], List.replicate m2913 (0 : Int), l2411) : Bool × (List Bool) × (List Int) × (List Int) × (List Int))).bind (unc5 fun x3032 l3033 l3035 l3037 l3039 =>
  (mMendSolverBound l2410 l3039 l2767).bind fun x3076 =>
  (loopM (mMendSolverWith_2_L3857 l2410 l2767 x3076) (x3032, l3033, l3035, l3037, l3039)).bind fun t => Sum.elim (unc2 fun x3853 l3854 =>
  some ((some (⟨l3854, l2410, l2767⟩ : MendSolver)), x3853)) (fun r4638 => some r4638) t)))

noncomputable def mMendPicked_L209 (s1 : MendGraph) (l20 : (List Int)) (k323 : Nat) : ((Option MendSolver) × Bool) → Option ((Option MendSolver) × Bool) := unc2 fun q319 x322 =>
  (idx l20 (k323 : Int)).bind fun x326 =>
  (if x322 = true then (
  some (decide (0 < x326)))
  else (
  some false)).bind (fun x339 =>
  if x339 = true then (
  (idx s1.Choices (k323 : Int)).bind fun x343 =>
  (chk (x326 - 1)).bind fun _ =>
  (idx x343.Ways (x326 - 1)).bind fun x357 =>
  (mMendSolverWith_2 q319 x357).bind (unc2 fun q370 x371 =>
  some (q370, x371)))
  else (
  some (q319, x322)))

/-- fishplate/mend.picked -/
noncomputable def mMendPicked (s1 : MendGraph) (l20 : (List Int)) : Option ((Option MendSolver) × Bool) :=
  (mMendStart s1).bind (unc2 fun q202 x203 =>
  (forS (mMendPicked_L209 s1 l20) l20.length 0 (q202, x203)).bind (unc2 fun q319 x322 =>
  some (q319, x322)))

/-- fishplate/mend.Times -/
noncomputable def mMendTimes (s1 : MendGraph) (l20 : (List Int)) : Option ((List Int) × Int) :=
  (mMendCheckPick s1 l20).bind fun x55 =>
  if x55 ≠ 0 then (
  some ([], x55))
  else (
  (mMendPicked s1 l20).bind (unc2 fun q58 x59 =>
  if x59 = true then (
  (q58).bind fun y66 =>
  some (y66.times, 0))
  else (
  some ([], 5))))

/-- fishplate/fishkeep2.awakeMend -/
noncomputable def mFishkeep2AwakeMend : Option (Bool) :=
  (mMendTimes (⟨[], [], [], [], []⟩ : MendGraph) [(-1)]).bind (unc2 fun _ x27 =>
  some (decide (x27 ≠ 0)))

/-- (fishplate/mend.Round).slack -/
noncomputable def mMendRoundSlack (s1 : MendRound) (s8 : MendLink) : Option (Int) :=
  (idx s1.Plan s8.To).bind fun x86 =>
  (idx s1.Plan s8.From).bind fun x96 =>
  (chk (x86 - x96)).bind fun _ =>
  (chk (s8.Back * s1.Period)).bind fun _ =>
  (chk ((x86 - x96) + (s8.Back * s1.Period))).bind fun _ =>
  (chk (((x86 - x96) + (s8.Back * s1.Period)) - s8.Len)).bind fun _ =>
  some (((x86 - x96) + (s8.Back * s1.Period)) - s8.Len)

noncomputable def mMendRoundRing_L3433 (s1 : MendRound) (k3885 : Nat) : (Bool × (List Int)) → Option (Bool × (List Int)) := unc2 fun x3882 l3883 =>
  (idx s1.Links (k3885 : Int)).bind fun x3888 =>
  (if x3888.Back = 0 then (
  (idx l3883 x3888.To).bind fun x4003 =>
  (idx l3883 x3888.From).bind fun x4019 =>
  some (decide (x4003 ≤ x4019)))
  else (
  some false)).bind (fun x3967 =>
  if x3967 = true then (
  (idx l3883 x3888.From).bind fun x4071 =>
  (chk (x4071 + 1)).bind fun _ =>
  (idx l3883 x3888.To).bind fun _ =>
  some (true, put l3883 x3888.To (x4071 + 1)))
  else (
  some (x3882, l3883)))

noncomputable def mMendRoundRing_L2067 (s1 : MendRound) (_k3429 : Nat) : ((List Int)) → Option (((List Int)) ⊕ (Bool)) := fun l3427 =>
  (forS (mMendRoundRing_L3433 s1) s1.Links.length 0 (false, l3427)).bind (unc2 fun x3882 l3883 =>
  if x3882 = true then (
  some (.inl l3883))
  else (
  some (.inr false)))

/-- (fishplate/mend.Round).ring -/
noncomputable def mMendRoundRing (s1 : MendRound) : Option (Bool) :=
  (mkLen 8 (s1.Plan.length : Int)).bind fun m2060 =>
  (chk ((s1.Plan.length : Int) + 1)).bind fun _ =>
  (chk ((s1.Plan.length : Int) + 1)).bind fun _ =>
  (forM (mMendRoundRing_L2067 s1) (((s1.Plan.length : Int) + 1).toNat) 0 (List.replicate m2060 (0 : Int))).bind fun t => Sum.elim (fun _ =>
  some true) (fun q => some q) t

noncomputable def mMendCheckRound_L226 (s1 : MendRound) (k278 : Nat) : (Unit) → Option ((Unit) ⊕ (Int)) := fun _ =>
  (idx s1.Links (k278 : Int)).bind fun x282 =>
  ((chk ((s1.Plan.length : Int) - 1)).bind fun _ =>
  (mMendWithin x282.From 0 ((s1.Plan.length : Int) - 1)).bind fun x305 =>
  if x305 = true then (
  (chk ((s1.Plan.length : Int) - 1)).bind fun _ =>
  (mMendWithin x282.To 0 ((s1.Plan.length : Int) - 1)).bind fun x309 =>
  some (!x309))
  else (
  some true)).bind (fun x302 =>
  if x302 = true then (
  some (.inr 3))
  else (
  ((mMendWithin x282.Len 0 28800).bind fun x322 =>
  if x322 = true then (
  (mMendWithin x282.Back 0 3).bind fun x325 =>
  some (!x325))
  else (
  some true)).bind (fun x320 =>
  if x320 = true then (
  some (.inr 2))
  else (
  (mMendRoundSlack s1 x282).bind fun x329 =>
  if x329 < 0 then (
  some (.inr 13))
  else (
  some (.inl ()))))))

noncomputable def mMendCheckRound_L188 (s1 : MendRound) (k206 : Nat) : (Unit) → Option ((Unit) ⊕ (Int)) := fun _ =>
  (idx s1.Plan (k206 : Int)).bind fun x210 =>
  (chk (s1.Period - 1)).bind fun _ =>
  (mMendWithin x210 0 (s1.Period - 1)).bind fun x221 =>
  if x221 = true then (
  some (.inl ()))
  else (
  some (.inr 2))

/-- fishplate/mend.CheckRound -/
noncomputable def mMendCheckRound (s1 : MendRound) : Option (Int) :=
  (mMendWithin s1.Period 1 3600).bind fun x174 =>
  if x174 = true then (
  ((mMendWithin (s1.Plan.length : Int) 1 8).bind fun x184 =>
  if x184 = true then (
  some (decide (24 < (s1.Links.length : Int))))
  else (
  some true)).bind (fun x182 =>
  if x182 = true then (
  some 4)
  else (
  (forM (mMendCheckRound_L188 s1) s1.Plan.length 0 ()).bind fun t => Sum.elim (fun _ =>
  (forM (mMendCheckRound_L226 s1) s1.Links.length 0 ()).bind fun t => Sum.elim (fun _ =>
  (mMendRoundRing s1).bind fun x334 =>
  if x334 = true then (
  some 5)
  else (
  some 0)) (fun q => some q) t) (fun q => some q) t)))
  else (
  some 2)

/-- math/bits.Mul64 -/
noncomputable def mBitsMul64 (x1 : Int) (x2 : Int) : Option (Int × Int) :=
  (shN 32).bind fun _ =>
  (shN 32).bind fun _ =>
  (shN 32).bind fun _ =>
  (shN 32).bind fun _ =>
  (shN 32).bind fun _ =>
  some (IntKind.wrap .u64 ((IntKind.wrap .u64 ((IntKind.wrap .u64 ((shrI .u64 x1 32) * (shrI .u64 x2 32))) + (shrI .u64 (IntKind.wrap .u64 ((IntKind.wrap .u64 ((shrI .u64 x1 32) * (andI .u64 x2 4294967295))) + (shrI .u64 (IntKind.wrap .u64 ((andI .u64 x1 4294967295) * (andI .u64 x2 4294967295))) 32))) 32))) + (shrI .u64 (IntKind.wrap .u64 ((andI .u64 (IntKind.wrap .u64 ((IntKind.wrap .u64 ((shrI .u64 x1 32) * (andI .u64 x2 4294967295))) + (shrI .u64 (IntKind.wrap .u64 ((andI .u64 x1 4294967295) * (andI .u64 x2 4294967295))) 32))) 4294967295) + (IntKind.wrap .u64 ((andI .u64 x1 4294967295) * (shrI .u64 x2 32))))) 32)), IntKind.wrap .u64 (x1 * x2))

/-- math/bits.Mul -/
noncomputable def mBitsMul (x1 : Int) (x2 : Int) : Option (Int × Int) :=
  (mBitsMul64 x1 x2).bind (unc2 fun x8 x9 =>
  some (x8, x9))

noncomputable def mSlicesRepeat_L612  : (Int × (List Int)) → Option ((Int × (List Int)) ⊕ ((List Int))) := unc2 fun x734 l735 =>
  if x734 < (l735.length : Int) then (
  (cutS l735 x734 (l735.length : Int)).bind fun _ =>
  (cutS l735 0 x734).bind fun l775 =>
  (chk (x734 + (cpyN x734 (l735.length : Int) l775))).bind fun _ =>
  some (.inl (x734 + (cpyN x734 (l735.length : Int) l775), cpyI l735 x734 (l735.length : Int) l775)))
  else (
  some (.inr l735))

/-- slices.Repeat[[]int,int] -/
noncomputable def mSlicesRepeat (l4 : (List Int)) (x5 : Int) : Option ((List Int)) :=
  if x5 < 0 then (
  none)
  else (
  (mBitsMul (IntKind.wrap .u64 (l4.length : Int)) (IntKind.wrap .u64 x5)).bind (unc2 fun x403 x404 =>
  (if 0 < x403 then (
  some true)
  else (
  some (decide (9223372036854775807 < x404)))).bind (fun x409 =>
  if x409 = true then (
  none)
  else (
  (mkLen 8 (IntKind.wrap .i64 x404)).bind fun m413 =>
  (loopM mSlicesRepeat_L612 (cpyN 0 ((List.replicate m413 (0 : Int)).length : Int) l4, cpyI (List.replicate m413 (0 : Int)) 0 ((List.replicate m413 (0 : Int)).length : Int) l4)).bind (fun l609 =>
  some l609)))))

noncomputable def mMendRoom_L58013 (s1 : MendRound) (k49706 : Nat) (k59099 : Nat) : (Bool × (List (List Int))) → Option (Bool × (List (List Int))) := unc2 fun x59096 l59097 =>
  (idx s1.Links (k59099 : Int)).bind fun x59102 =>
  (idx l59097 (k49706 : Int)).bind fun x59149 =>
  (idx x59149 x59102.From).bind fun x59169 =>
  if x59169 < 0 then (
  some (x59096, l59097))
  else (
  (idx l59097 (k49706 : Int)).bind fun x59225 =>
  (idx x59225 x59102.From).bind fun x59245 =>
  (mMendRoundSlack s1 x59102).bind fun x59261 =>
  (chk (x59245 + x59261)).bind fun _ =>
  ((idx l59097 (k49706 : Int)).bind fun x59487 =>
  (idx x59487 x59102.To).bind fun x59507 =>
  if x59507 < 0 then (
  some true)
  else (
  (idx l59097 (k49706 : Int)).bind fun x59524 =>
  (idx x59524 x59102.To).bind fun x59544 =>
  some (decide ((x59245 + x59261) < x59544)))).bind (fun x59412 =>
  if x59412 = true then (
  (idx l59097 (k49706 : Int)).bind fun x59599 =>
  (idx x59599 x59102.To).bind fun _ =>
  some (true, put l59097 (k49706 : Int) (put x59599 x59102.To (x59245 + x59261))))
  else (
  some (x59096, l59097))))

noncomputable def mMendRoom_L54748 (s1 : MendRound) (k49706 : Nat) : (Bool × (List (List Int))) → Option ((Bool × (List (List Int))) ⊕ ((List (List Int)))) := unc2 fun x58009 l58010 =>
  if x58009 = true then (
  (forS (mMendRoom_L58013 s1 k49706) s1.Links.length 0 (false, l58010)).bind (unc2 fun x59096 l59097 =>
  some (.inl (x59096, l59097))))
  else (
  some (.inr l58010))

noncomputable def mMendRoom_L29836 (s1 : MendRound) (k49706 : Nat) : ((List (List Int))) → Option ((List (List Int))) := fun l49704 =>
  ((mSlicesRepeat [(-1)] (s1.Plan.length : Int)).bind fun l54680 =>
  (idx l49704 (k49706 : Int)).bind fun _ =>
  (idx (put l49704 (k49706 : Int) l54680) (k49706 : Int)).bind fun x54710 =>
  (idx x54710 (k49706 : Int)).bind fun _ =>
  loopM (mMendRoom_L54748 s1 k49706) (true, put (put l49704 (k49706 : Int) l54680) (k49706 : Int) (put x54710 (k49706 : Int) 0))).bind (fun l54674 =>
  some l54674)

/-- fishplate/mend.Room -/
noncomputable def mMendRoom (s1 : MendRound) : Option (Int × (List (List Int))) :=
  (mMendCheckRound s1).bind fun x29827 =>
  if x29827 ≠ 0 then (
  some (x29827, []))
  else (
  (mkLen 24 (s1.Plan.length : Int)).bind fun m29830 =>
  (forS (mMendRoom_L29836 s1) ((List.replicate m29830 (([] : List Int) : (List Int))).length) 0 (List.replicate m29830 (([] : List Int) : (List Int)) : (List (List Int)))).bind (fun l49704 =>
  some (0, l49704)))

noncomputable def mSlicesEqual_L104 (l4 : (List Int)) (l8 : (List Int)) (k149 : Nat) : (Unit) → Option ((Unit) ⊕ (Bool)) := fun _ =>
  (idx l4 (k149 : Int)).bind fun x173 =>
  (idx l8 (k149 : Int)).bind fun x183 =>
  if x173 ≠ x183 then (
  some (.inr false))
  else (
  some (.inl ()))

/-- slices.Equal[[]int,int] -/
noncomputable def mSlicesEqual (l4 : (List Int)) (l8 : (List Int)) : Option (Bool) :=
  if (l4.length : Int) ≠ (l8.length : Int) then (
  some false)
  else (
  (forM (mSlicesEqual_L104 l4 l8) l4.length 0 ()).bind fun t => Sum.elim (fun _ =>
  some true) (fun q => some q) t)

/-- fishplate/fishkeep2.rounds -/
noncomputable def mFishkeep2Rounds : Option (Bool) :=
  (mMendRoom (⟨9, [0, 5], [(⟨0, 1, 3, 0⟩ : MendLink)]⟩ : MendRound)).bind (unc2 fun x131 l132 =>
  (if x131 = 0 then (
  if (l132.length : Int) = 2 then (
  (idx l132 0).bind fun x189 =>
  (mSlicesEqual x189 [0, 2]).bind fun x205 =>
  if x205 = true then (
  (idx l132 1).bind fun x208 =>
  (mSlicesEqual x208 [(-1), 0]).bind fun x224 =>
  some x224)
  else (
  some false))
  else (
  some false))
  else (
  some false)).bind (fun x185 =>
  some x185))

/-- fishplate/fishref2.within -/
noncomputable def mFishref2Within (x1 : Int) (x2 : Int) (x3 : Int) : Option (Bool) :=
  (if x2 ≤ x1 then (
  some (decide (x1 ≤ x3)))
  else (
  some false)).bind (fun x14 =>
  some x14)

/-- fishplate/fishref2.SlackOf -/
noncomputable def mFishref2SlackOf (s1 : MendRound) (s8 : MendLink) : Option (Int) :=
  (idx s1.Plan s8.To).bind fun x86 =>
  (idx s1.Plan s8.From).bind fun x96 =>
  (chk (x86 - x96)).bind fun _ =>
  (chk (s8.Back * s1.Period)).bind fun _ =>
  (chk ((x86 - x96) + (s8.Back * s1.Period))).bind fun _ =>
  (chk (((x86 - x96) + (s8.Back * s1.Period)) - s8.Len)).bind fun _ =>
  some (((x86 - x96) + (s8.Back * s1.Period)) - s8.Len)

noncomputable def mSlicesIndex_L39 (l4 : (List Bool)) (x5 : Bool) (k54 : Nat) : (Unit) → Option ((Unit) ⊕ (Int)) := fun _ =>
  (idx l4 (k54 : Int)).bind fun x58 =>
  if (decide (x5 = x58)) = true then (
  some (.inr (k54 : Int)))
  else (
  some (.inl ()))

/-- slices.Index[[]bool,bool] -/
noncomputable def mSlicesIndex (l4 : (List Bool)) (x5 : Bool) : Option (Int) :=
  (forM (mSlicesIndex_L39 l4 x5) l4.length 0 ()).bind fun t => Sum.elim (fun _ =>
  some (-1)) (fun q => some q) t

/-- slices.Contains[[]bool,bool] -/
noncomputable def mSlicesContains (l4 : (List Bool)) (x5 : Bool) : Option (Bool) :=
  (mSlicesIndex l4 x5).bind fun x9 =>
  some (decide (0 ≤ x9))

noncomputable def mFishref2RoundFault_L3068 (s1 : MendRound) (k3065 : Nat) (l3063 : (List Bool)) (k3135 : Nat) : (Bool) → Option (Bool) := fun x3134 =>
  (idx s1.Links (k3135 : Int)).bind fun x3138 =>
  if x3134 = true then (
  if 0 < x3138.Back then (
  some true)
  else (
  if x3138.To ≠ (k3065 : Int) then (
  some true)
  else (
  (idx l3063 x3138.From).bind fun x3152 =>
  if x3152 = true then (
  some true)
  else (
  some false))))
  else (
  some false)

noncomputable def mFishref2RoundFault_L2743 (s1 : MendRound) (k3065 : Nat) : ((List Bool)) → Option ((List Bool)) := fun l3063 =>
  (forS (mFishref2RoundFault_L3068 s1 k3065 l3063) s1.Links.length 0 true).bind (fun x3134 =>
  (idx l3063 (k3065 : Int)).bind fun x3169 =>
  if x3169 = true then (
  (idx l3063 (k3065 : Int)).bind fun _ =>
  some (put l3063 (k3065 : Int) true))
  else (
  (idx l3063 (k3065 : Int)).bind fun _ =>
  some (put l3063 (k3065 : Int) x3134)))

noncomputable def mFishref2RoundFault_L1768 (s1 : MendRound) (_k2740 : Nat) : ((List Bool)) → Option ((List Bool)) := fun l2738 =>
  (forS (mFishref2RoundFault_L2743 s1) s1.Plan.length 0 l2738).bind (fun l3063 =>
  some l3063)

noncomputable def mFishref2RoundFault_L1670 (s1 : MendRound) (k1714 : Nat) : (Unit) → Option ((Unit) ⊕ (Int)) := fun _ =>
  (idx s1.Links (k1714 : Int)).bind fun x1718 =>
  (if x1718.From < 0 then (
  some true)
  else (
  if (s1.Plan.length : Int) ≤ x1718.From then (
  some true)
  else (
  if x1718.To < 0 then (
  some true)
  else (
  some (decide ((s1.Plan.length : Int) ≤ x1718.To)))))).bind (fun x1734 =>
  if x1734 = true then (
  some (.inr 3))
  else (
  ((mFishref2Within x1718.Len 0 28800).bind fun x1750 =>
  if x1750 = true then (
  (mFishref2Within x1718.Back 0 3).bind fun x1753 =>
  some (!x1753))
  else (
  some true)).bind (fun x1748 =>
  if x1748 = true then (
  some (.inr 2))
  else (
  (mFishref2SlackOf s1 x1718).bind fun x1757 =>
  if x1757 < 0 then (
  some (.inr 13))
  else (
  some (.inl ()))))))

noncomputable def mFishref2RoundFault_L1632 (s1 : MendRound) (k1650 : Nat) : (Unit) → Option ((Unit) ⊕ (Int)) := fun _ =>
  (idx s1.Plan (k1650 : Int)).bind fun x1654 =>
  (chk (s1.Period - 1)).bind fun _ =>
  (mFishref2Within x1654 0 (s1.Period - 1)).bind fun x1665 =>
  if x1665 = true then (
  some (.inl ()))
  else (
  some (.inr 2))

/-- fishplate/fishref2.RoundFault -/
noncomputable def mFishref2RoundFault (s1 : MendRound) : Option (Int) :=
  (mFishref2Within s1.Period 1 3600).bind fun x1618 =>
  if x1618 = true then (
  ((mFishref2Within (s1.Plan.length : Int) 1 8).bind fun x1628 =>
  if x1628 = true then (
  some (decide (24 < (s1.Links.length : Int))))
  else (
  some true)).bind (fun x1626 =>
  if x1626 = true then (
  some 4)
  else (
  (forM (mFishref2RoundFault_L1632 s1) s1.Plan.length 0 ()).bind fun t => Sum.elim (fun _ =>
  (forM (mFishref2RoundFault_L1670 s1) s1.Links.length 0 ()).bind fun t => Sum.elim (fun _ =>
  (mkLen 1 (s1.Plan.length : Int)).bind fun m1762 =>
  (forS (mFishref2RoundFault_L1768 s1) s1.Plan.length 0 (List.replicate m1762 (false : Bool))).bind (fun l2738 =>
  (mSlicesContains l2738 false).bind fun x3222 =>
  if x3222 = true then (
  some 5)
  else (
  some 0))) (fun q => some q) t) (fun q => some q) t)))
  else (
  some 2)

noncomputable def mMendRoundMean_1_2_L1919 (l29 : (List Int)) (l33 : (List MendLink)) (l37 : (List Int)) (x21 : Int) (x22 : Int) (x23 : Int) (x24 : Int) (x25 : Int) (rcmMendRoundMean_1_2 : (Int) → (Int) → (Int) → (Int) → (Int) → ((List Int)) → ((List MendLink)) → (Int) → (Int) → ((List Bool)) → ((List Int)) → ((List Int)) → Option (Int × Int × (List Bool) × (List Int))) (k2459 : Nat) : (Int × Int × (List Bool) × (List Int)) → Option (Int × Int × (List Bool) × (List Int)) := unc4 fun x2451 x2452 l2453 l2455 =>
  (idx l33 (k2459 : Int)).bind fun x2462 =>
  (if x2462.From ≠ x22 then (
  some true)
  else (
  some (decide (x2462.To < x21)))).bind (fun x2476 =>
  if x2476 = true then (
  some (x2451, x2452, l2453, l2455))
  else (
  if x2462.To = x21 then (
  (chk (x23 + x2462.Len)).bind fun _ =>
  (chk (x24 + x2462.Back)).bind fun _ =>
  (if l2455.isEmpty = true then (
  some true)
  else (
  (chk ((x23 + x2462.Len) * x2451)).bind fun _ =>
  (chk (x2452 * (x24 + x2462.Back))).bind fun _ =>
  some (decide ((x2452 * (x24 + x2462.Back)) < ((x23 + x2462.Len) * x2451))))).bind (fun x2490 =>
  if x2490 = true then (
  (mSlicesClone l37).bind fun l2496 =>
  (room 8 (l2496.length + 1)).bind fun _ =>
  some (x24 + x2462.Back, x23 + x2462.Len, l2453, l2496 ++ [(k2459 : Int)]))
  else (
  some (x2451, x2452, l2453, l2455))))
  else (
  (idx l2453 x2462.To).bind fun x2510 =>
  if x2510 = true then (
  some (x2451, x2452, l2453, l2455))
  else (
  (idx l2453 x2462.To).bind fun _ =>
  ((room 8 (l37.length + 1)).bind fun _ =>
  (chk (x23 + x2462.Len)).bind fun _ =>
  (chk (x24 + x2462.Back)).bind fun _ =>
  (rcmMendRoundMean_1_2 x21 x2462.To (x23 + x2462.Len) (x24 + x2462.Back) x25 l29 l33 x2451 x2452 (put l2453 x2462.To true) (l37 ++ [(k2459 : Int)]) l2455).bind (unc4 fun x2667 x2668 l2669 l2670 =>
  some (x2667, x2668, l2669, l2670))).bind (unc4 fun x2621 x2622 l2623 l2625 =>
  (idx l2623 x2462.To).bind fun _ =>
  some (x2621, x2622, put l2623 x2462.To false, l2625))))))

/-- (fishplate/mend.Round).mean-1 -/
noncomputable def mMendRoundMean_1_2 : Nat → (Int) → (Int) → (Int) → (Int) → (Int) → ((List Int)) → ((List MendLink)) → (Int) → (Int) → ((List Bool)) → ((List Int)) → ((List Int)) → Option (Int × Int × (List Bool) × (List Int))
  | 0 => fun _ _ _ _ _ _ _ _ _ _ _ _ => none
  | N + 1 => fun x21 x22 x23 x24 x25 l29 l33 x34 x35 l36 l37 l39 =>
  (forS (mMendRoundMean_1_2_L1919 l29 l33 l37 x21 x22 x23 x24 x25 (mMendRoundMean_1_2 N)) l33.length 0 (x34, x35, l36, l39)).bind (unc4 fun x2451 x2452 l2453 l2455 =>
  some (x2451, x2452, l2453, l2455))

noncomputable def mMendRoundMean_1_L851 (l29 : (List Int)) (l33 : (List MendLink)) (l37 : (List Int)) (x21 : Int) (x22 : Int) (x23 : Int) (x24 : Int) (x25 : Int) (k1391 : Nat) : (Int × Int × (List Bool) × (List Int)) → Option (Int × Int × (List Bool) × (List Int)) := unc4 fun x1383 x1384 l1385 l1387 =>
  (idx l33 (k1391 : Int)).bind fun x1394 =>
  (if x1394.From ≠ x22 then (
  some true)
  else (
  some (decide (x1394.To < x21)))).bind (fun x1408 =>
  if x1408 = true then (
  some (x1383, x1384, l1385, l1387))
  else (
  if x1394.To = x21 then (
  (chk (x23 + x1394.Len)).bind fun _ =>
  (chk (x24 + x1394.Back)).bind fun _ =>
  (if l1387.isEmpty = true then (
  some true)
  else (
  (chk ((x23 + x1394.Len) * x1383)).bind fun _ =>
  (chk (x1384 * (x24 + x1394.Back))).bind fun _ =>
  some (decide ((x1384 * (x24 + x1394.Back)) < ((x23 + x1394.Len) * x1383))))).bind (fun x1422 =>
  if x1422 = true then (
  (mSlicesClone l37).bind fun l1428 =>
  (room 8 (l1428.length + 1)).bind fun _ =>
  some (x24 + x1394.Back, x23 + x1394.Len, l1385, l1428 ++ [(k1391 : Int)]))
  else (
  some (x1383, x1384, l1385, l1387))))
  else (
  (idx l1385 x1394.To).bind fun x1442 =>
  if x1442 = true then (
  some (x1383, x1384, l1385, l1387))
  else (
  (idx l1385 x1394.To).bind fun _ =>
  ((room 8 (l37.length + 1)).bind fun _ =>
  (chk (x23 + x1394.Len)).bind fun _ =>
  (chk (x24 + x1394.Back)).bind fun _ =>
  (lim (fun N => mMendRoundMean_1_2 N x21 x1394.To (x23 + x1394.Len) (x24 + x1394.Back) x25 l29 l33 x1383 x1384 (put l1385 x1394.To true) (l37 ++ [(k1391 : Int)]) l1387)).bind (unc4 fun x1599 x1600 l1601 l1602 =>
  some (x1599, x1600, l1601, l1602))).bind (unc4 fun x1553 x1554 l1555 l1557 =>
  (idx l1555 x1394.To).bind fun _ =>
  some (x1553, x1554, put l1555 x1394.To false, l1557))))))

/-- (fishplate/mend.Round).mean-1 -/
noncomputable def mMendRoundMean_1 (x21 : Int) (x22 : Int) (x23 : Int) (x24 : Int) (x25 : Int) (l29 : (List Int)) (l33 : (List MendLink)) (x34 : Int) (x35 : Int) (l36 : (List Bool)) (l37 : (List Int)) (l38 : (List Int)) : Option (Int × Int × (List Bool) × (List Int)) :=
  (forS (mMendRoundMean_1_L851 l29 l33 l37 x21 x22 x23 x24 x25) l33.length 0 (x34, x35, l36, l38)).bind (unc4 fun x1383 x1384 l1385 l1387 =>
  some (x1383, x1384, l1385, l1387))

noncomputable def mMendRoundMean_L127 (s1 : MendRound) (k197 : Nat) : (Int × Int × (List Int)) → Option (Int × Int × (List Int)) := unc3 fun x193 x194 l195 =>
  (mkLen 1 (s1.Plan.length : Int)).bind fun m200 =>
  (mMendRoundMean_1 (k197 : Int) (k197 : Int) 0 0 s1.Period s1.Plan s1.Links x194 x193 (List.replicate m200 (false : Bool)) ([] : List Int) l195).bind (unc4 fun x207 x208 _ l210 =>
  some (x208, x207, l210))

/-- (fishplate/mend.Round).mean -/
noncomputable def mMendRoundMean (s1 : MendRound) : Option (Int × Int × (List Int)) :=
  (forS (mMendRoundMean_L127 s1) s1.Plan.length 0 ((0, 0, []) : Int × Int × (List Int))).bind (unc3 fun x193 x194 l195 =>
  (some ()).bind (fun _ =>
  some (x193, x194, l195)))

/-- (fishplate/mend.Round).stable -/
noncomputable def mMendRoundStable (s1 : MendRound) : Option (Bool) :=
  (mMendRoundMean s1).bind (unc3 fun x30 x31 l32 =>
  (if l32.isEmpty = true then (
  some true)
  else (
  (chk (x31 * s1.Period)).bind fun _ =>
  some (decide (x30 < (x31 * s1.Period))))).bind (fun x45 =>
  some x45))

/-- fishplate/mend.Stable -/
noncomputable def mMendStable (s1 : MendRound) : Option (Bool × Int) :=
  (mMendCheckRound s1).bind fun x17 =>
  if x17 ≠ 0 then (
  some (false, x17))
  else (
  (mMendRoundStable s1).bind fun x20 =>
  some (x20, 0))

noncomputable def mMendRoundFollow_L5678 (s1 : MendRound) (l15 : (List (List Int))) (k6018 : Nat) : (Bool × (List Int)) → Option (Bool × (List Int)) := unc2 fun x6016 l6017 =>
  (idx s1.Links (k6018 : Int)).bind fun x6021 =>
  if 0 < x6021.Back then (
  if (l15.length : Int) < x6021.Back then (
  some (x6016, l6017))
  else (
  (chk (x6021.Back - 1)).bind fun _ =>
  (idx l15 (x6021.Back - 1)).bind fun x6035 =>
  (idx x6035 x6021.From).bind fun x6061 =>
  (mMendRoundSlack s1 x6021).bind fun x6071 =>
  (chk (x6061 - x6071)).bind fun _ =>
  (idx l6017 x6021.To).bind fun x6074 =>
  if x6074 < (x6061 - x6071) then (
  (idx l6017 x6021.To).bind fun _ =>
  some (true, put l6017 x6021.To (x6061 - x6071)))
  else (
  some (x6016, l6017))))
  else (
  (idx l6017 x6021.From).bind fun x6128 =>
  (mMendRoundSlack s1 x6021).bind fun x6144 =>
  (chk (x6128 - x6144)).bind fun _ =>
  (idx l6017 x6021.To).bind fun x6147 =>
  if x6147 < (x6128 - x6144) then (
  (idx l6017 x6021.To).bind fun _ =>
  some (true, put l6017 x6021.To (x6128 - x6144)))
  else (
  some (x6016, l6017)))

noncomputable def mMendRoundFollow_L4651 (s1 : MendRound) (l15 : (List (List Int))) : (Bool × (List Int)) → Option ((Bool × (List Int)) ⊕ ((List Int))) := unc2 fun x5675 l5676 =>
  if x5675 = true then (
  (forS (mMendRoundFollow_L5678 s1 l15) s1.Links.length 0 (false, l5676)).bind (unc2 fun x6016 l6017 =>
  some (.inl (x6016, l6017))))
  else (
  some (.inr l5676))

/-- (fishplate/mend.Round).follow -/
noncomputable def mMendRoundFollow (s1 : MendRound) (l11 : (List Int)) (l15 : (List (List Int))) : Option ((List Int)) :=
  (mSlicesClone l11).bind fun l3103 =>
  (loopM (mMendRoundFollow_L4651 s1 l15) (true, l3103)).bind (fun l4649 =>
  some l4649)

noncomputable def mMendSettles_L1152 (s1 : MendRound) : (Int × Int × (List (List Int))) → Option ((Int × Int × (List (List Int))) ⊕ (Int)) := unc3 fun x1399 x1400 l1401 =>
  (chk (x1399 + 3)).bind fun _ =>
  if x1400 ≤ (x1399 + 3) then (
  ((mkLen 8 (s1.Plan.length : Int)).bind fun m1455 =>
  (mMendRoundFollow s1 (List.replicate m1455 (0 : Int)) l1401).bind fun l1461 =>
  some l1461).bind (fun l1439 =>
  ((mMendGreatest 0 l1439).bind fun x1476 =>
  if 0 < x1476 then (
  some x1400)
  else (
  some x1399)).bind (fun x1474 =>
  (cutS l1401 0 (min (l1401.length : Int) 2)).bind fun l1484 =>
  (room 24 ([l1439].length + l1484.length)).bind fun _ =>
  (chk (x1400 + 1)).bind fun _ =>
  some (.inl (x1474, x1400 + 1, [l1439] ++ l1484)))))
  else (
  some (.inr x1399))

/-- fishplate/mend.Settles -/
noncomputable def mMendSettles (s1 : MendRound) (x8 : Int) : Option (Int × Int) :=
  (mMendCheckRound s1).bind fun x764 =>
  if x764 ≠ 0 then (
  some (0, x764))
  else (
  (mMendWithin x8 0 28800).bind fun x767 =>
  if x767 = true then (
  if x8 = 0 then (
  some (0, 0))
  else (
  (mMendRoundStable s1).bind fun x771 =>
  if x771 = true then (
  (mSlicesRepeat [x8] (s1.Plan.length : Int)).bind fun l777 =>
  (loopM (mMendSettles_L1152 s1) (0, 1, [l777])).bind (fun x1150 =>
  (chk (x1150 + 1)).bind fun _ =>
  some (x1150 + 1, 0)))
  else (
  some (0, 9))))
  else (
  some (0, 2)))

noncomputable def mMendSpread_L1795 (l11 : (List MendFirst)) (k1786 : Nat) (k1969 : Nat) : ((List Int)) → Option ((List Int)) := fun l1967 =>
  (idx l11 (k1969 : Int)).bind fun x1972 =>
  if x1972.Period = (k1786 : Int) then (
  (idx l1967 x1972.Event).bind fun x2018 =>
  (idx l1967 x1972.Event).bind fun _ =>
  some (put l1967 x1972.Event (max x2018 x1972.Secs)))
  else (
  some l1967)

noncomputable def mMendSpread_L1139 (s1 : MendRound) (l11 : (List MendFirst)) (k1786 : Nat) : ((List (List Int)) × (List (List Int))) → Option ((List (List Int)) × (List (List Int))) := unc2 fun l1784 l1785 =>
  (mkLen 8 (s1.Plan.length : Int)).bind fun m1789 =>
  (forS (mMendSpread_L1795 l11 k1786) l11.length 0 (List.replicate m1789 (0 : Int))).bind (fun l1967 =>
  (mMendRoundFollow s1 l1967 l1785).bind fun l2052 =>
  (room 24 (l1784.length + 1)).bind fun _ =>
  (cutS l1785 0 (min (l1785.length : Int) 2)).bind fun l2075 =>
  (room 24 ([l2052].length + l2075.length)).bind fun _ =>
  some (l1784 ++ [l2052], [l2052] ++ l2075))

noncomputable def mMendSpread_L1068 (s1 : MendRound) (l11 : (List MendFirst)) (k1102 : Nat) : (Unit) → Option ((Unit) ⊕ (Int × (List (List Int)))) := fun _ =>
  (idx l11 (k1102 : Int)).bind fun x1106 =>
  (chk ((s1.Plan.length : Int) - 1)).bind fun _ =>
  (mMendWithin x1106.Event 0 ((s1.Plan.length : Int) - 1)).bind fun x1118 =>
  if x1118 = true then (
  ((mMendWithin x1106.Period 0 59).bind fun x1131 =>
  if x1131 = true then (
  (mMendWithin x1106.Secs 0 28800).bind fun x1134 =>
  some (!x1134))
  else (
  some true)).bind (fun x1129 =>
  if x1129 = true then (
  some (.inr (2, [])))
  else (
  some (.inl ()))))
  else (
  some (.inr (3, [])))

/-- fishplate/mend.Spread -/
noncomputable def mMendSpread (s1 : MendRound) (l11 : (List MendFirst)) (x12 : Int) : Option (Int × (List (List Int))) :=
  (mMendCheckRound s1).bind fun x1061 =>
  if x1061 ≠ 0 then (
  some (x1061, []))
  else (
  (mMendWithin x12 0 60).bind fun x1064 =>
  if x1064 = true then (
  if 20 < (l11.length : Int) then (
  some (4, []))
  else (
  (forM (mMendSpread_L1068 s1 l11) l11.length 0 ()).bind fun t => Sum.elim (fun _ =>
  (chk x12).bind fun _ =>
  (forS (mMendSpread_L1139 s1 l11) ((x12).toNat) 0 (([], []) : (List (List Int)) × (List (List Int)))).bind (unc2 fun l1784 _ =>
  some (0, l1784))) (fun q => some q) t))
  else (
  some (2, [])))

/-- slices.Grow[[][]int,[]int] -/
noncomputable def mSlicesGrow (x1 : Int) : Option ((List (List Int))) :=
  if x1 < 0 then (
  none)
  else (
  ((chk (0 - 0)).bind fun _ =>
  (chk (x1 - (0 - 0))).bind fun _ =>
  if 0 < (x1 - (0 - 0)) then (
  (posN (x1 - (0 - 0))).bind fun m100 =>
  (room 24 m100).bind fun _ =>
  (cutS (List.replicate m100 (([] : List Int) : (List Int))) 0 0).bind fun l107 =>
  some l107)
  else (
  some [])).bind (fun l95 =>
  some l95))

noncomputable def mSlicesConcat_L217 (l4 : (List (List (List Int)))) (k275 : Nat) : ((List (List Int))) → Option ((List (List Int))) := fun l274 =>
  (idx l4 (k275 : Int)).bind fun x278 =>
  (room 24 (l274.length + x278.length)).bind fun _ =>
  some (l274 ++ x278)

noncomputable def mSlicesConcat_L155 (l4 : (List (List (List Int)))) (k191 : Nat) : (Int) → Option (Int) := fun x190 =>
  (idx l4 (k191 : Int)).bind fun x194 =>
  (chk (x190 + (x194.length : Int))).bind fun _ =>
  if (x190 + (x194.length : Int)) < 0 then (
  none)
  else (
  some (x190 + (x194.length : Int)))

/-- slices.Concat[[][]int,[]int] -/
noncomputable def mSlicesConcat (l4 : (List (List (List Int)))) : Option ((List (List Int))) :=
  (forS (mSlicesConcat_L155 l4) l4.length 0 0).bind (fun x190 =>
  (mSlicesGrow x190).bind fun l209 =>
  (forS (mSlicesConcat_L217 l4) l4.length 0 l209).bind (fun l274 =>
  some l274))

/-- fishplate/fishkeep2.MendDies-1 -/
noncomputable def mFishkeep2MendDies_1 (l5 : (List Int)) (_x6 : Int) (l10 : (List Int)) (_l14 : (List MendLink)) : Option (Bool) :=
  some (decide ((l5.length : Int) ≠ (l10.length : Int)))

noncomputable def mSlicesIndexFunc_L76 (x7 : Int) (l11 : (List Int)) (l15 : (List MendLink)) (l16 : (List (List Int))) (k104 : Nat) : (Unit) → Option ((Unit) ⊕ (Int)) := fun _ =>
  (idx l16 (k104 : Int)).bind fun x108 =>
  (mFishkeep2MendDies_1 x108 x7 l11 l15).bind fun x127 =>
  if x127 = true then (
  some (.inr (k104 : Int)))
  else (
  some (.inl ()))

/-- slices.IndexFunc[[][]int,[]int] -/
noncomputable def mSlicesIndexFunc (x7 : Int) (l11 : (List Int)) (l15 : (List MendLink)) (l16 : (List (List Int))) : Option (Int) :=
  (forM (mSlicesIndexFunc_L76 x7 l11 l15 l16) l16.length 0 ()).bind fun t => Sum.elim (fun _ =>
  some (-1)) (fun q => some q) t

/-- slices.ContainsFunc[[][]int,[]int] -/
noncomputable def mSlicesContainsFunc (x7 : Int) (l11 : (List Int)) (l15 : (List MendLink)) (l16 : (List (List Int))) : Option (Bool) :=
  (mSlicesIndexFunc x7 l11 l15 l16).bind fun x22 =>
  some (decide (0 ≤ x22))

noncomputable def mFishkeep2MendDies_L1657 (l988 : (List MendFirst)) (k1628 : Nat) (l1049 : (List (List Int))) (k1735 : Nat) : (Int) → Option (Int) := fun x1734 =>
  (idx l988 (k1735 : Int)).bind fun x1738 =>
  (idx l1049 x1738.Event).bind fun x1749 =>
  (idx x1749 (k1628 : Int)).bind fun x1762 =>
  if 0 ≤ x1762 then (
  (chk (x1738.Secs - x1762)).bind fun _ =>
  some (max x1734 (x1738.Secs - x1762)))
  else (
  some x1734)

noncomputable def mFishkeep2MendDies_L1483 (l988 : (List MendFirst)) (x987 : Int) (k1466 : Nat) (l1049 : (List (List Int))) (x1023 : Int) (x1024 : Int) (x1470 : (List Int)) (k1628 : Nat) : (Unit) → Option ((Unit) ⊕ ((Unit) ⊕ (Bool))) := fun _ =>
  (idx x1470 (k1628 : Int)).bind fun x1632 =>
  (if x1632 < 0 then (
  some true)
  else (
  if x987 < x1632 then (
  some true)
  else (
  if x1024 = 0 then (
  if x1023 ≤ (k1466 : Int) then (
  some (decide (0 < x1632)))
  else (
  some false))
  else (
  some false)))).bind (fun x1648 =>
  if x1648 = true then (
  some (.inr (.inr false)))
  else (
  (forS (mFishkeep2MendDies_L1657 l988 k1628 l1049) l988.length 0 0).bind (fun x1734 =>
  if x1734 < x1632 then (
  some (.inr (.inr false)))
  else (
  some (.inl ())))))

noncomputable def mFishkeep2MendDies_L1158 (l988 : (List MendFirst)) (x987 : Int) (l1049 : (List (List Int))) (l1110 : (List (List Int))) (x1023 : Int) (x1024 : Int) (k1466 : Nat) : (Unit) → Option ((Unit) ⊕ (Bool)) := fun _ =>
  (idx l1110 (k1466 : Int)).bind fun x1470 =>
  (forM (mFishkeep2MendDies_L1483 l988 x987 k1466 l1049 x1023 x1024 x1470) x1470.length 0 ()).bind fun t => Sum.elim (fun _ =>
  some (.inl ())) (fun q => some q) t

noncomputable def mFishkeep2MendDies_L914 (s1 : MendRound) (l11 : (List MendFirst)) (k989 : Nat) : (Int × (List MendFirst)) → Option (Int × (List MendFirst)) := unc2 fun x987 l988 =>
  (idx l11 (k989 : Int)).bind fun x992 =>
  (if 0 ≤ x992.Event then (
  if x992.Event < (s1.Plan.length : Int) then (
  if 0 ≤ x992.Secs then (
  some (decide (x992.Secs ≤ 28800)))
  else (
  some false))
  else (
  some false))
  else (
  some false)).bind (fun x1008 =>
  if x1008 = true then (
  (room 24 (l988.length + 1)).bind fun _ =>
  some (max x987 x992.Secs, l988 ++ [(⟨x992.Event, 0, x992.Secs⟩ : MendFirst)]))
  else (
  some (x987, l988)))

/-- fishplate/fishkeep2.MendDies -/
noncomputable def mFishkeep2MendDies (s1 : MendRound) (l11 : (List MendFirst)) : Option (Bool) :=
  (mFishkeep2AwakeMend).bind fun x897 =>
  if x897 = true then (
  (mFishkeep2Rounds).bind fun x900 =>
  if x900 = true then (
  ((mFishref2RoundFault s1).bind fun x910 =>
  if x910 ≠ 0 then (
  some true)
  else (
  some (decide (20 < (l11.length : Int))))).bind (fun x908 =>
  if x908 = true then (
  some true)
  else (
  (forS (mFishkeep2MendDies_L914 s1 l11) l11.length 0 ((0, []) : Int × (List MendFirst))).bind (unc2 fun x987 l988 =>
  (mMendStable s1).bind (unc2 fun x1020 x1021 =>
  (mMendSettles s1 x987).bind (unc2 fun x1023 x1024 =>
  (if x1021 ≠ 0 then (
  some true)
  else (
  if x1020 = true then (
  some (decide ((decide (x1024 = 0)) ≠ true)))
  else (
  some (decide ((decide (x1024 = 0)) ≠ (decide (x987 = 0))))))).bind (fun x1030 =>
  if x1030 = true then (
  some false)
  else (
  (mMendSpread s1 l988 60).bind (unc2 fun x1039 l1040 =>
  (mMendRoom s1).bind (unc2 fun x1048 l1049 =>
  (if x1039 ≠ 0 then (
  some (l1040, true))
  else (
  if x1048 ≠ 0 then (
  some (l1040, true))
  else (
  if (l1040.length : Int) ≠ 60 then (
  some (l1040, true))
  else (
  if (l1049.length : Int) ≠ (s1.Plan.length : Int) then (
  some (l1040, true))
  else (
  (mSlicesConcat [l1040, l1049]).bind fun l1145 =>
  (mSlicesContainsFunc s1.Period s1.Plan s1.Links l1145).bind fun x1153 =>
  some (l1040, x1153)))))).bind (unc2 fun l1110 x1111 =>
  if x1111 = true then (
  some false)
  else (
  (forM (mFishkeep2MendDies_L1158 l988 x987 l1049 l1110 x1023 x1024) l1110.length 0 ()).bind fun t => Sum.elim (fun _ =>
  some true) (fun q => some q) t))))))))))))
  else (
  some false))
  else (
  some false)

end Go.Proofs.Ytakehdnblmonlaa
