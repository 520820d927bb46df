/- The models of the functions, as the extractor printed them. -/
import Derived.Test.YtakehdnblmonlaaXD
set_option linter.unusedVariables false
set_option linter.unusedSimpArgs false
namespace Go.Proofs.Ytakehdnblmonlaa
open Go.RowKit Go.Fp

structure MendArc where
  From : Int
  To : Int
  Len : Int
  deriving DecidableEq
def rMendArc : RT MendArc := (RT.cat (RT.on (RT.int .i64) MendArc.From) (RT.cat (RT.on (RT.int .i64) MendArc.To) (RT.on (RT.int .i64) MendArc.Len)))
structure MendChoice where
  Ways : (List (List MendArc))
def rMendChoice : RT MendChoice := (RT.on (RT.list (RT.list rMendArc)) MendChoice.Ways)
structure MendGraph where
  Ready : (List Int)
  Last : (List Int)
  Due : (List Int)
  Arcs : (List MendArc)
  Choices : (List MendChoice)
def rMendGraph : RT MendGraph := (RT.cat (RT.on (RT.list (RT.int .i64)) MendGraph.Ready) (RT.cat (RT.on (RT.list (RT.int .i64)) MendGraph.Last) (RT.cat (RT.on (RT.list (RT.int .i64)) MendGraph.Due) (RT.cat (RT.on (RT.list rMendArc) MendGraph.Arcs) (RT.on (RT.list rMendChoice) MendGraph.Choices)))))
structure MendSolver where
  times : (List Int)
  last : (List Int)
  outs : (List (List MendArc))
def rMendSolver : RT MendSolver := (RT.cat (RT.on (RT.list (RT.int .i64)) MendSolver.times) (RT.cat (RT.on (RT.list (RT.int .i64)) MendSolver.last) (RT.on (RT.list (RT.list rMendArc)) MendSolver.outs)))
structure MendLink where
  From : Int
  To : Int
  Len : Int
  Back : Int
  deriving DecidableEq
def rMendLink : RT MendLink := (RT.cat (RT.on (RT.int .i64) MendLink.From) (RT.cat (RT.on (RT.int .i64) MendLink.To) (RT.cat (RT.on (RT.int .i64) MendLink.Len) (RT.on (RT.int .i64) MendLink.Back))))
structure MendRound where
  Period : Int
  Plan : (List Int)
  Links : (List MendLink)
def rMendRound : RT MendRound := (RT.cat (RT.on (RT.int .i64) MendRound.Period) (RT.cat (RT.on (RT.list (RT.int .i64)) MendRound.Plan) (RT.on (RT.list rMendLink) MendRound.Links)))

/-- fishplate/mend.within -/
noncomputable def mMendWithin (x1 : Int) (x2 : Int) (x3 : Int) : Option (Bool) :=
  (if x2 ≤ x1 then (
  some (decide (x1 ≤ x3)))
  else (
  some false)).bind (fun x14 =>
  some x14)

noncomputable def mMendCheckArcs_L104 (s1 : MendGraph) (l20 : (List MendArc)) (k142 : Nat) : (Unit) → Option ((Unit) ⊕ (Int)) := fun _ =>
  (idx l20 (k142 : Int)).bind fun x146 =>
  ((chk ((s1.Ready.length : Int) - 1)).bind fun _ =>
  (mMendWithin x146.From 0 ((s1.Ready.length : Int) - 1)).bind fun x169 =>
  if x169 = true then (
  (chk ((s1.Ready.length : Int) - 1)).bind fun _ =>
  (mMendWithin x146.To 0 ((s1.Ready.length : Int) - 1)).bind fun x173 =>
  some (!x173))
  else (
  some true)).bind (fun x166 =>
  if x166 = true then (
  some (.inr 3))
  else (
  if x146.From = x146.To then (
  some (.inr 1))
  else (
  (mMendWithin x146.Len (-28800) 28800).bind fun x179 =>
  if x179 = true then (
  some (.inl ()))
  else (
  some (.inr 2)))))

/-- fishplate/mend.checkArcs -/
noncomputable def mMendCheckArcs (s1 : MendGraph) (l20 : (List MendArc)) : Option (Int) :=
  (forM (mMendCheckArcs_L104 s1 l20) l20.length 0 ()).bind fun t => Sum.elim (fun _ =>
  some 0) (fun q => some q) t

noncomputable def mMendCheckGraph_L614 (s1 : MendGraph) (x598 : MendChoice) (k635 : Nat) : (Unit) → Option ((Unit) ⊕ ((Unit) ⊕ (Int))) := fun _ =>
  (idx x598.Ways (k635 : Int)).bind fun x639 =>
  if 4 < (x639.length : Int) then (
  some (.inr (.inr 4)))
  else (
  (mMendCheckArcs s1 x639).bind fun x655 =>
  if x655 ≠ 0 then (
  some (.inr (.inr x655)))
  else (
  some (.inl ())))

noncomputable def mMendCheckGraph_L532 (s1 : MendGraph) (k594 : Nat) : (Unit) → Option ((Unit) ⊕ (Int)) := fun _ =>
  (idx s1.Choices (k594 : Int)).bind fun x598 =>
  if 3 < (x598.Ways.length : Int) then (
  some (.inr 4))
  else (
  (forM (mMendCheckGraph_L614 s1 x598) x598.Ways.length 0 ()).bind fun t => Sum.elim (fun _ =>
  some (.inl ())) (fun q => some q) t)

noncomputable def mMendCheckGraph_L357 (s1 : MendGraph) (k442 : Nat) : (Unit) → Option ((Unit) ⊕ (Int)) := fun _ =>
  ((idx s1.Ready (k442 : Int)).bind fun x488 =>
  (mMendWithin x488 0 28800).bind fun x498 =>
  if x498 = true then (
  (idx s1.Last (k442 : Int)).bind fun x501 =>
  (mMendWithin x501 (-1) 28800).bind fun x511 =>
  if x511 = true then (
  (idx s1.Due (k442 : Int)).bind fun x514 =>
  (mMendWithin x514 (-1) 28800).bind fun x524 =>
  some (!x524))
  else (
  some true))
  else (
  some true)).bind (fun x486 =>
  if x486 = true then (
  some (.inr 2))
  else (
  some (.inl ())))

/-- fishplate/mend.CheckGraph -/
noncomputable def mMendCheckGraph (s1 : MendGraph) : Option (Int) :=
  (if 24 < (s1.Ready.length : Int) then (
  some true)
  else (
  if 250 < (s1.Arcs.length : Int) then (
  some true)
  else (
  some (decide (300 < (s1.Choices.length : Int)))))).bind (fun x345 =>
  if x345 = true then (
  some 4)
  else (
  (if (s1.Last.length : Int) ≠ (s1.Ready.length : Int) then (
  some true)
  else (
  some (decide ((s1.Due.length : Int) ≠ (s1.Ready.length : Int))))).bind (fun x353 =>
  if x353 = true then (
  some 1)
  else (
  (forM (mMendCheckGraph_L357 s1) s1.Ready.length 0 ()).bind fun t => Sum.elim (fun _ =>
  (mMendCheckArcs s1 s1.Arcs).bind fun x529 =>
  if x529 ≠ 0 then (
  some x529)
  else (
  (forM (mMendCheckGraph_L532 s1) s1.Choices.length 0 ()).bind fun t => Sum.elim (fun _ =>
  some 0) (fun q => some q) t)) (fun q => some q) t))))

noncomputable def mMendCheckPick_L94 (s1 : MendGraph) (l20 : (List Int)) (k124 : Nat) : (Unit) → Option ((Unit) ⊕ (Int)) := fun _ =>
  (idx l20 (k124 : Int)).bind fun x128 =>
  (idx s1.Choices (k124 : Int)).bind fun x138 =>
  (mMendWithin x128 0 (x138.Ways.length : Int)).bind fun x151 =>
  if x151 = true then (
  some (.inl ()))
  else (
  some (.inr 2))

/-- fishplate/mend.checkPick -/
noncomputable def mMendCheckPick (s1 : MendGraph) (l20 : (List Int)) : Option (Int) :=
  (mMendCheckGraph s1).bind fun x90 =>
  if x90 ≠ 0 then (
  some x90)
  else (
  if (l20.length : Int) ≠ (s1.Choices.length : Int) then (
  some 1)
  else (
  (forM (mMendCheckPick_L94 s1 l20) l20.length 0 ()).bind fun t => Sum.elim (fun _ =>
  some 0) (fun q => some q) t))

/-- slices.Clone[[]int,int] -/
noncomputable def mSlicesClone (l4 : (List Int)) : Option ((List Int)) :=
  (room 8 l4.length).bind fun _ => some l4

/-- slices.Clone[[][]fishplate/mend.Arc,[]fishplate/mend.Arc] -/
noncomputable def mSlicesClone_2 (l4 : (List (List MendArc))) : Option ((List (List MendArc))) :=
  (room 24 l4.length).bind fun _ => some l4

/-- slices.Clone[[]fishplate/mend.Arc,fishplate/mend.Arc] -/
noncomputable def mSlicesClone_3 (l4 : (List MendArc)) : Option ((List MendArc)) :=
  (room 24 l4.length).bind fun _ => some l4

/-- (*fishplate/mend.solver).with-1 -/
noncomputable def mMendSolverWith_1 (s32 : MendArc) (x33 : Bool) (l37 : (List Int)) (l38 : (List Int)) (l39 : (List Bool)) (l40 : (List Int)) (l42 : (List Int)) (_l43 : (List (List MendArc))) : Option (Bool × (List Int) × (List Bool) × (List Int) × (List Int)) :=
  (idx l42 s32.From).bind fun x497 =>
  (chk (x497 + s32.Len)).bind fun _ =>
  (idx l42 s32.To).bind fun x530 =>
  if (x497 + s32.Len) ≤ x530 then (
  some (x33, l38, l39, l40, l42))
  else (
  (idx l42 s32.To).bind fun _ =>
  (idx l38 s32.To).bind fun x583 =>
  (chk (x583 + 1)).bind fun _ =>
  (idx l38 s32.To).bind fun _ =>
  (if x33 = true then (
  (idx l37 s32.To).bind fun x794 =>
  if x794 < 0 then (
  if (x497 + s32.Len) ≤ 1099511627776 then (
  (idx (put l38 s32.To (x583 + 1)) s32.To).bind fun x806 =>
  some (decide (x806 ≤ 65536)))
  else (
  some false))
  else (
  (idx l37 s32.To).bind fun x822 =>
  if (x497 + s32.Len) ≤ x822 then (
  if (x497 + s32.Len) ≤ 1099511627776 then (
  (idx (put l38 s32.To (x583 + 1)) s32.To).bind fun x834 =>
  some (decide (x834 ≤ 65536)))
  else (
  some false))
  else (
  some false)))
  else (
  some false)).bind (fun x734 =>
  (idx l39 s32.To).bind fun x850 =>
  if x850 = true then (
  some (x734, put l38 s32.To (x583 + 1), l39, l40, put l42 s32.To (x497 + s32.Len)))
  else (
  (idx l39 s32.To).bind fun _ =>
  (room 8 (l40.length + 1)).bind fun _ =>
  some (x734, put l38 s32.To (x583 + 1), put l39 s32.To true, l40 ++ [s32.To], put l42 s32.To (x497 + s32.Len)))))

noncomputable def mMendGreatest_L46 (l5 : (List Int)) (k72 : Nat) : (Int) → Option (Int) := fun x71 =>
  (idx l5 (k72 : Int)).bind fun x75 =>
  some (max x71 x75)

/-- fishplate/mend.greatest[int] -/
noncomputable def mMendGreatest (x1 : Int) (l5 : (List Int)) : Option (Int) :=
  (forS (mMendGreatest_L46 l5) l5.length 0 x1).bind (fun x71 =>
  some x71)

noncomputable def mMendSolverBound_L370 (x351 : (List MendArc)) (k398 : Nat) : (Int) → Option (Int) := fun x397 =>
  (idx x351 (k398 : Int)).bind fun x401 =>
  some (max x397 x401.Len)

noncomputable def mMendSolverBound_L218 (l17 : (List (List MendArc))) (k348 : Nat) : (Int) → Option (Int) := fun x347 =>
  (idx l17 (k348 : Int)).bind fun x351 =>
  (forS (mMendSolverBound_L370 x351) x351.length 0 0).bind (fun x397 =>
  (chk (x347 + x397)).bind fun _ =>
  some (x347 + x397))

/-- (*fishplate/mend.solver).bound -/
noncomputable def mMendSolverBound (_l15 : (List Int)) (l16 : (List Int)) (l17 : (List (List MendArc))) : Option (Int) :=
  (mMendGreatest 0 l16).bind fun x216 =>
  (forS (mMendSolverBound_L218 l17) l17.length 0 x216).bind (fun x347 =>
  some x347)

/-- (*fishplate/mend.solver).with-1 -/
noncomputable def mMendSolverWith_1_2 (s32 : MendArc) (x33 : Bool) (l37 : (List Int)) (l38 : (List Int)) (l39 : (List Bool)) (l40 : (List Int)) (l41 : (List Int)) (_l42 : (List (List MendArc))) : Option (Bool × (List Int) × (List Bool) × (List Int) × (List Int)) :=
  (idx l41 s32.From).bind fun x495 =>
  (chk (x495 + s32.Len)).bind fun _ =>
  (idx l41 s32.To).bind fun x528 =>
  if (x495 + s32.Len) ≤ x528 then (
  some (x33, l38, l39, l40, l41))
  else (
  (idx l41 s32.To).bind fun _ =>
  (idx l38 s32.To).bind fun x581 =>
  (chk (x581 + 1)).bind fun _ =>
  (idx l38 s32.To).bind fun _ =>
  (if x33 = true then (
  (idx l37 s32.To).bind fun x792 =>
  if x792 < 0 then (
  if (x495 + s32.Len) ≤ 1099511627776 then (
  (idx (put l38 s32.To (x581 + 1)) s32.To).bind fun x804 =>
  some (decide (x804 ≤ 65536)))
  else (
  some false))
  else (
  (idx l37 s32.To).bind fun x820 =>
  if (x495 + s32.Len) ≤ x820 then (
  if (x495 + s32.Len) ≤ 1099511627776 then (
  (idx (put l38 s32.To (x581 + 1)) s32.To).bind fun x832 =>
  some (decide (x832 ≤ 65536)))
  else (
  some false))
  else (
  some false)))
  else (
  some false)).bind (fun x732 =>
  (idx l39 s32.To).bind fun x848 =>
  if x848 = true then (
  some (x732, put l38 s32.To (x581 + 1), l39, l40, put l41 s32.To (x495 + s32.Len)))
  else (
  (idx l39 s32.To).bind fun _ =>
  (room 8 (l40.length + 1)).bind fun _ =>
  some (x732, put l38 s32.To (x581 + 1), put l39 s32.To true, l40 ++ [s32.To], put l41 s32.To (x495 + s32.Len)))))

noncomputable def mMendSolverWith_L4413 (l19 : (List Int)) (l2705 : (List (List MendArc))) (x4394 : (List MendArc)) (k4527 : Nat) : (Bool × (List Bool) × (List Int) × (List Int) × (List Int)) → Option (Bool × (List Bool) × (List Int) × (List Int) × (List Int)) := unc5 fun x4520 l4521 l4523 l4524 l4526 =>
  (idx x4394 (k4527 : Int)).bind fun x4530 =>
  (mMendSolverWith_1_2 x4530 x4520 l19 l4524 l4521 l4523 l4526 l2705).bind (unc5 fun x4541 l4542 l4543 l4544 l4545 =>
  some (x4541, l4543, l4544, l4542, l4545))

noncomputable def mMendSolverWith_L3795 (l19 : (List Int)) (l2368 : (List (List MendArc))) (l2705 : (List (List MendArc))) (x3014 : Int) : (Bool × (List Bool) × (List Int) × (List Int) × (List Int)) → Option ((Bool × (List Bool) × (List Int) × (List Int) × (List Int)) ⊕ ((Bool × (List Int)) ⊕ ((Option MendSolver) × Bool × (List (List MendArc))))) := unc5 fun x4315 l4316 l4318 l4319 l4321 =>
  (if 0 < (l4318.length : Int) then (
  some x4315)
  else (
  some false)).bind (fun x4325 =>
  if x4325 = true then (
  (idx l4318 0).bind fun x4329 =>
  (cutS l4318 1 (l4318.length : Int)).bind fun l4345 =>
  (idx l4316 x4329).bind fun _ =>
  (idx l4321 x4329).bind fun x4376 =>
  if x3014 < x4376 then (
  some (.inr (.inr (none, false, l2368))))
  else (
  (idx l2705 x4329).bind fun x4394 =>
  (forS (mMendSolverWith_L4413 l19 l2705 x4394) x4394.length 0 (x4315, put l4316 x4329 false, l4345, l4319, l4321)).bind (unc5 fun x4520 l4521 l4523 l4524 l4526 =>
  some (.inl (x4520, l4521, l4523, l4524, l4526)))))
  else (
  some (.inr (.inl (x4315, l4321)))))

noncomputable def mMendSolverWith_L2860 (l15 : (List MendArc)) (l19 : (List Int)) (l2705 : (List (List MendArc))) (k2978 : Nat) : (Bool × (List Bool) × (List Int) × (List Int) × (List Int)) → Option (Bool × (List Bool) × (List Int) × (List Int) × (List Int)) := unc5 fun x2970 l2971 l2973 l2975 l2977 =>
  (idx l15 (k2978 : Int)).bind fun x2981 =>
  (mMendSolverWith_1 x2981 x2970 l19 l2975 l2971 l2973 l2977 l2705).bind (unc5 fun x2992 l2993 l2994 l2995 l2996 =>
  some (x2992, l2994, l2995, l2993, l2996))

noncomputable def mMendSolverWith_L2420 (l15 : (List MendArc)) (k2706 : Nat) : ((List (List MendArc))) → Option ((List (List MendArc))) := fun l2705 =>
  (idx l15 (k2706 : Int)).bind fun x2709 =>
  (idx l2705 x2709.From).bind fun x2782 =>
  (mSlicesClone_3 x2782).bind fun l2801 =>
  (room 24 (l2801.length + 1)).bind fun _ =>
  (idx l2705 x2709.From).bind fun _ =>
  some (put l2705 x2709.From (l2801 ++ [x2709]))

/-- (*fishplate/mend.solver).with -/
noncomputable def mMendSolverWith (l15 : (List MendArc)) (l19 : (List Int)) (l20 : (List Int)) (l21 : (List (List MendArc))) : Option ((Option MendSolver) × Bool × (List (List MendArc))) :=
  ((mSlicesClone l20).bind fun l2402 =>
  (mSlicesClone_2 l21).bind fun l2410 =>
  some (l21, l2402, l2410)).bind (unc3 fun l2368 l2369 l2370 =>
  (forS (mMendSolverWith_L2420 l15) l15.length 0 l2370).bind (fun l2705 =>
  (mkLen 1 (l2369.length : Int)).bind fun m2844 =>
  (mkLen 8 (l2369.length : Int)).bind fun m2851 =>
  (forS (mMendSolverWith_L2860 l15 l19 l2705) l15.length 0 ((true, List.replicate m2844 (false : Bool), [], List.replicate m2851 (0 : Int), l2369) : Bool × (List Bool) × (List Int) × (List Int) × (List Int))).bind (unc5 fun x2970 l2971 l2973 l2975 l2977 =>
  (mMendSolverBound l19 l2977 l2705).bind fun x3014 =>
  (loopM (mMendSolverWith_L3795 l19 l2368 l2705 x3014) (x2970, l2971, l2973, l2975, l2977)).bind fun t => Sum.elim (unc2 fun x3791 l3792 =>
  some ((some (⟨l3792, l19, l2705⟩ : MendSolver)), x3791, l2368)) (fun r4575 => some r4575) t)))

noncomputable def mMendStart_L322 (s1 : MendGraph) (l289 : (List Int)) (k389 : Nat) : (Unit) → Option ((Unit) ⊕ ((Option MendSolver) × Bool)) := fun _ =>
  (idx l289 (k389 : Int)).bind fun x393 =>
  ((idx s1.Last (k389 : Int)).bind fun x434 =>
  if 0 ≤ x434 then (
  (idx s1.Last (k389 : Int)).bind fun x445 =>
  some (decide (x445 < x393)))
  else (
  some false)).bind (fun x432 =>
  if x432 = true then (
  some (.inr (none, false)))
  else (
  some (.inl ())))

/-- fishplate/mend.start -/
noncomputable def mMendStart (s1 : MendGraph) : Option ((Option MendSolver) × Bool) :=
  ((mSlicesClone s1.Ready).bind fun l307 =>
  (mkLen 24 (s1.Ready.length : Int)).bind fun m315 =>
  some (l307, List.replicate m315 (([] : List MendArc) : (List MendArc)))).bind (unc2 fun l289 l290 =>
  (forM (mMendStart_L322 s1 l289) l289.length 0 ()).bind fun t => Sum.elim (fun _ =>
  (mMendSolverWith s1.Arcs s1.Last l289 l290).bind (unc3 fun q458 x459 _ =>
  some (q458, x459))) (fun q => some q) t)

noncomputable def mMendPicked_L136 (s1 : MendGraph) (l20 : (List Int)) (x130 : Bool) (k184 : Nat) : (Unit) → Option (Unit) := fun _ =>
  (idx l20 (k184 : Int)).bind fun x187 =>
  (if x130 = true then (
  some (decide (0 < x187)))
  else (
  some false)).bind (fun x200 =>
  if x200 = true then (
  (idx s1.Choices (k184 : Int)).bind fun x204 =>
  (chk (x187 - 1)).bind fun _ =>
  (idx x204.Ways (x187 - 1)).bind fun _ =>
  none)
  else (
  some ()))

/-- fishplate/mend.picked -/
noncomputable def mMendPicked (s1 : MendGraph) (l20 : (List Int)) : Option ((Option MendSolver) × Bool) :=
  (mMendStart s1).bind (unc2 fun q129 x130 =>
  (forS (mMendPicked_L136 s1 l20 x130) l20.length 0 ()).bind (fun _ =>
  some (q129, x130)))

/-- fishplate/mend.Times -/
noncomputable def mMendTimes (s1 : MendGraph) (l20 : (List Int)) : Option ((List Int) × Int) :=
  (mMendCheckPick s1 l20).bind fun x55 =>
  if x55 ≠ 0 then (
  some ([], x55))
  else (
  (mMendPicked s1 l20).bind (unc2 fun q58 x59 =>
  if x59 = true then (
  (q58).bind fun y66 =>
  some (y66.times, 0))
  else (
  some ([], 5))))

/-- fishplate/fishkeep2.awakeMend -/
noncomputable def mFishkeep2AwakeMend : Option (Bool) :=
  (mMendTimes (⟨[], [], [], [], []⟩ : MendGraph) [(-1)]).bind (unc2 fun _ x25 =>
  some (decide (x25 ≠ 0)))

/-- (fishplate/mend.Round).slack -/
noncomputable def mMendRoundSlack (s1 : MendRound) (s8 : MendLink) : Option (Int) :=
  (idx s1.Plan s8.To).bind fun x86 =>
  (idx s1.Plan s8.From).bind fun x96 =>
  (chk (x86 - x96)).bind fun _ =>
  (chk (s8.Back * s1.Period)).bind fun _ =>
  (chk ((x86 - x96) + (s8.Back * s1.Period))).bind fun _ =>
  (chk (((x86 - x96) + (s8.Back * s1.Period)) - s8.Len)).bind fun _ =>
  some (((x86 - x96) + (s8.Back * s1.Period)) - s8.Len)

noncomputable def mMendRoundRing_L3433 (s1 : MendRound) (k3885 : Nat) : (Bool × (List Int)) → Option (Bool × (List Int)) := unc2 fun x3882 l3883 =>
  (idx s1.Links (k3885 : Int)).bind fun x3888 =>
  (if x3888.Back = 0 then (
  (idx l3883 x3888.To).bind fun x4003 =>
  (idx l3883 x3888.From).bind fun x4019 =>
  some (decide (x4003 ≤ x4019)))
  else (
  some false)).bind (fun x3967 =>
  if x3967 = true then (
  (idx l3883 x3888.From).bind fun x4071 =>
  (chk (x4071 + 1)).bind fun _ =>
  (idx l3883 x3888.To).bind fun _ =>
  some (true, put l3883 x3888.To (x4071 + 1)))
  else (
  some (x3882, l3883)))

noncomputable def mMendRoundRing_L2067 (s1 : MendRound) (_k3429 : Nat) : ((List Int)) → Option (((List Int)) ⊕ (Bool)) := fun l3427 =>
  (forS (mMendRoundRing_L3433 s1) s1.Links.length 0 (false, l3427)).bind (unc2 fun x3882 l3883 =>
  if x3882 = true then (
  some (.inl l3883))
  else (
  some (.inr false)))

/-- (fishplate/mend.Round).ring -/
noncomputable def mMendRoundRing (s1 : MendRound) : Option (Bool) :=
  (mkLen 8 (s1.Plan.length : Int)).bind fun m2060 =>
  (chk ((s1.Plan.length : Int) + 1)).bind fun _ =>
  (chk ((s1.Plan.length : Int) + 1)).bind fun _ =>
  (forM (mMendRoundRing_L2067 s1) (((s1.Plan.length : Int) + 1).toNat) 0 (List.replicate m2060 (0 : Int))).bind fun t => Sum.elim (fun _ =>
  some true) (fun q => some q) t

noncomputable def mMendCheckRound_L226 (s1 : MendRound) (k278 : Nat) : (Unit) → Option ((Unit) ⊕ (Int)) := fun _ =>
  (idx s1.Links (k278 : Int)).bind fun x282 =>
  ((chk ((s1.Plan.length : Int) - 1)).bind fun _ =>
  (mMendWithin x282.From 0 ((s1.Plan.length : Int) - 1)).bind fun x305 =>
  if x305 = true then (
  (chk ((s1.Plan.length : Int) - 1)).bind fun _ =>
  (mMendWithin x282.To 0 ((s1.Plan.length : Int) - 1)).bind fun x309 =>
  some (!x309))
  else (
  some true)).bind (fun x302 =>
  if x302 = true then (
  some (.inr 3))
  else (
  ((mMendWithin x282.Len 0 28800).bind fun x322 =>
  if x322 = true then (
  (mMendWithin x282.Back 0 3).bind fun x325 =>
  some (!x325))
  else (
  some true)).bind (fun x320 =>
  if x320 = true then (
  some (.inr 2))
  else (
  (mMendRoundSlack s1 x282).bind fun x329 =>
  if x329 < 0 then (
  some (.inr 13))
  else (
  some (.inl ()))))))

noncomputable def mMendCheckRound_L188 (s1 : MendRound) (k206 : Nat) : (Unit) → Option ((Unit) ⊕ (Int)) := fun _ =>
  (idx s1.Plan (k206 : Int)).bind fun x210 =>
  (chk (s1.Period - 1)).bind fun _ =>
  (mMendWithin x210 0 (s1.Period - 1)).bind fun x221 =>
  if x221 = true then (
  some (.inl ()))
  else (
  some (.inr 2))

/-- fishplate/mend.CheckRound -/
noncomputable def mMendCheckRound (s1 : MendRound) : Option (Int) :=
  (mMendWithin s1.Period 1 3600).bind fun x174 =>
  if x174 = true then (
  ((mMendWithin (s1.Plan.length : Int) 1 8).bind fun x184 =>
  if x184 = true then (
  some (decide (24 < (s1.Links.length : Int))))
  else (
  some true)).bind (fun x182 =>
  if x182 = true then (
  some 4)
  else (
  (forM (mMendCheckRound_L188 s1) s1.Plan.length 0 ()).bind fun t => Sum.elim (fun _ =>
  (forM (mMendCheckRound_L226 s1) s1.Links.length 0 ()).bind fun t => Sum.elim (fun _ =>
  (mMendRoundRing s1).bind fun x334 =>
  if x334 = true then (
  some 5)
  else (
  some 0)) (fun q => some q) t) (fun q => some q) t)))
  else (
  some 2)

/-- math/bits.Mul64 -/
noncomputable def mBitsMul64 (x1 : Int) (x2 : Int) : Option (Int × Int) :=
  (shN 32).bind fun _ =>
  (shN 32).bind fun _ =>
  (shN 32).bind fun _ =>
  (shN 32).bind fun _ =>
  (shN 32).bind fun _ =>
  some (IntKind.wrap .u64 ((IntKind.wrap .u64 ((IntKind.wrap .u64 ((shrI .u64 x1 32) * (shrI .u64 x2 32))) + (shrI .u64 (IntKind.wrap .u64 ((IntKind.wrap .u64 ((shrI .u64 x1 32) * (andI .u64 x2 4294967295))) + (shrI .u64 (IntKind.wrap .u64 ((andI .u64 x1 4294967295) * (andI .u64 x2 4294967295))) 32))) 32))) + (shrI .u64 (IntKind.wrap .u64 ((andI .u64 (IntKind.wrap .u64 ((IntKind.wrap .u64 ((shrI .u64 x1 32) * (andI .u64 x2 4294967295))) + (shrI .u64 (IntKind.wrap .u64 ((andI .u64 x1 4294967295) * (andI .u64 x2 4294967295))) 32))) 4294967295) + (IntKind.wrap .u64 ((andI .u64 x1 4294967295) * (shrI .u64 x2 32))))) 32)), IntKind.wrap .u64 (x1 * x2))

/-- math/bits.Mul -/
noncomputable def mBitsMul (x1 : Int) (x2 : Int) : Option (Int × Int) :=
  (mBitsMul64 x1 x2).bind (unc2 fun x8 x9 =>
  some (x8, x9))

noncomputable def mSlicesRepeat_L612  : (Int × (List Int)) → Option ((Int × (List Int)) ⊕ ((List Int))) := unc2 fun x734 l735 =>
  if x734 < (l735.length : Int) then (
  (cutS l735 x734 (l735.length : Int)).bind fun _ =>
  (cutS l735 0 x734).bind fun l775 =>
  (chk (x734 + (cpyN x734 (l735.length : Int) l775))).bind fun _ =>
  some (.inl (x734 + (cpyN x734 (l735.length : Int) l775), cpyI l735 x734 (l735.length : Int) l775)))
  else (
  some (.inr l735))

/-- slices.Repeat[[]int,int] -/
noncomputable def mSlicesRepeat (l4 : (List Int)) (x5 : Int) : Option ((List Int)) :=
  if x5 < 0 then (
  none)
  else (
  (mBitsMul (IntKind.wrap .u64 (l4.length : Int)) (IntKind.wrap .u64 x5)).bind (unc2 fun x403 x404 =>
  (if 0 < x403 then (
  some true)
  else (
  some (decide (9223372036854775807 < x404)))).bind (fun x409 =>
  if x409 = true then (
  none)
  else (
  (mkLen 8 (IntKind.wrap .i64 x404)).bind fun m413 =>
  (loopM mSlicesRepeat_L612 (cpyN 0 ((List.replicate m413 (0 : Int)).length : Int) l4, cpyI (List.replicate m413 (0 : Int)) 0 ((List.replicate m413 (0 : Int)).length : Int) l4)).bind (fun l609 =>
  some l609)))))

noncomputable def mMendRoom_L58013 (s1 : MendRound) (k49706 : Nat) (k59099 : Nat) : (Bool × (List (List Int))) → Option (Bool × (List (List Int))) := unc2 fun x59096 l59097 =>
  (idx s1.Links (k59099 : Int)).bind fun x59102 =>
  (idx l59097 (k49706 : Int)).bind fun x59149 =>
  (idx x59149 x59102.From).bind fun x59169 =>
  if x59169 < 0 then (
  some (x59096, l59097))
  else (
  (idx l59097 (k49706 : Int)).bind fun x59225 =>
  (idx x59225 x59102.From).bind fun x59245 =>
  (mMendRoundSlack s1 x59102).bind fun x59261 =>
  (chk (x59245 + x59261)).bind fun _ =>
  ((idx l59097 (k49706 : Int)).bind fun x59487 =>
  (idx x59487 x59102.To).bind fun x59507 =>
  if x59507 < 0 then (
  some true)
  else (
  (idx l59097 (k49706 : Int)).bind fun x59524 =>
  (idx x59524 x59102.To).bind fun x59544 =>
  some (decide ((x59245 + x59261) < x59544)))).bind (fun x59412 =>
  if x59412 = true then (
  (idx l59097 (k49706 : Int)).bind fun x59599 =>
  (idx x59599 x59102.To).bind fun _ =>
  some (true, put l59097 (k49706 : Int) (put x59599 x59102.To (x59245 + x59261))))
  else (
  some (x59096, l59097))))

noncomputable def mMendRoom_L54748 (s1 : MendRound) (k49706 : Nat) : (Bool × (List (List Int))) → Option ((Bool × (List (List Int))) ⊕ ((List (List Int)))) := unc2 fun x58009 l58010 =>
  if x58009 = true then (
  (forS (mMendRoom_L58013 s1 k49706) s1.Links.length 0 (false, l58010)).bind (unc2 fun x59096 l59097 =>
  some (.inl (x59096, l59097))))
  else (
  some (.inr l58010))

noncomputable def mMendRoom_L29836 (s1 : MendRound) (k49706 : Nat) : ((List (List Int))) → Option ((List (List Int))) := fun l49704 =>
  ((mSlicesRepeat [(-1)] (s1.Plan.length : Int)).bind fun l54680 =>
  (idx l49704 (k49706 : Int)).bind fun _ =>
  (idx (put l49704 (k49706 : Int) l54680) (k49706 : Int)).bind fun x54710 =>
  (idx x54710 (k49706 : Int)).bind fun _ =>
  loopM (mMendRoom_L54748 s1 k49706) (true, put (put l49704 (k49706 : Int) l54680) (k49706 : Int) (put x54710 (k49706 : Int) 0))).bind (fun l54674 =>
  some l54674)

/-- fishplate/mend.Room -/
noncomputable def mMendRoom (s1 : MendRound) : Option (Int × (List (List Int))) :=
  (mMendCheckRound s1).bind fun x29827 =>
  if x29827 ≠ 0 then (
  some (x29827, []))
  else (
  (mkLen 24 (s1.Plan.length : Int)).bind fun m29830 =>
  (forS (mMendRoom_L29836 s1) ((List.replicate m29830 (([] : List Int) : (List Int))).length) 0 (List.replicate m29830 (([] : List Int) : (List Int)) : (List (List Int)))).bind (fun l49704 =>
  some (0, l49704)))

noncomputable def mSlicesEqual_L104 (l4 : (List Int)) (l8 : (List Int)) (k149 : Nat) : (Unit) → Option ((Unit) ⊕ (Bool)) := fun _ =>
  (idx l4 (k149 : Int)).bind fun x173 =>
  (idx l8 (k149 : Int)).bind fun x183 =>
  if x173 ≠ x183 then (
  some (.inr false))
  else (
  some (.inl ()))

/-- slices.Equal[[]int,int] -/
noncomputable def mSlicesEqual (l4 : (List Int)) (l8 : (List Int)) : Option (Bool) :=
  if (l4.length : Int) ≠ (l8.length : Int) then (
  some false)
  else (
  (forM (mSlicesEqual_L104 l4 l8) l4.length 0 ()).bind fun t => Sum.elim (fun _ =>
  some true) (fun q => some q) t)

/-- fishplate/fishkeep2.rounds -/
noncomputable def mFishkeep2Rounds : Option (Bool) :=
  (mMendRoom (⟨9, [0, 5], [(⟨0, 1, 3, 0⟩ : MendLink)]⟩ : MendRound)).bind (unc2 fun x151 l152 =>
  (if x151 = 0 then (
  if (l152.length : Int) = 2 then (
  (idx l152 0).bind fun x219 =>
  (mSlicesEqual x219 [0, 2]).bind fun x242 =>
  if x242 = true then (
  (idx l152 1).bind fun x245 =>
  (mSlicesEqual x245 [(-1), 0]).bind fun x268 =>
  some x268)
  else (
  some false))
  else (
  some false))
  else (
  some false)).bind (fun x215 =>
  some x215))

/-- fishplate/mend.Closure-1 -/
noncomputable def mMendClosure_1 (l5 : (List Int)) (l9 : (List (List Int))) : Option (Bool) :=
  some (decide ((l5.length : Int) ≠ (l9.length : Int)))

noncomputable def mSlicesIndexFunc_L57 (l5 : (List (List Int))) (l9 : (List (List Int))) (k79 : Nat) : (Unit) → Option ((Unit) ⊕ (Int)) := fun _ =>
  (idx l5 (k79 : Int)).bind fun x83 =>
  (mMendClosure_1 x83 l9).bind fun x96 =>
  if x96 = true then (
  some (.inr (k79 : Int)))
  else (
  some (.inl ()))

/-- slices.IndexFunc[[][]int,[]int] -/
noncomputable def mSlicesIndexFunc (l5 : (List (List Int))) (l9 : (List (List Int))) : Option (Int) :=
  (forM (mSlicesIndexFunc_L57 l5 l9) l5.length 0 ()).bind fun t => Sum.elim (fun _ =>
  some (-1)) (fun q => some q) t

/-- slices.ContainsFunc[[][]int,[]int] -/
noncomputable def mSlicesContainsFunc (l5 : (List (List Int))) (l9 : (List (List Int))) : Option (Bool) :=
  (mSlicesIndexFunc l5 l9).bind fun x15 =>
  some (decide (0 ≤ x15))

/-- fishplate/mend.checkTable-1 -/
noncomputable def mMendCheckTable_1 (x1 : Int) : Option (Bool) :=
  (if x1 ≠ (-4611686018427387904) then (
  (mMendWithin x1 (-1099511627776) 1099511627776).bind fun x21 =>
  some (!x21))
  else (
  some false)).bind (fun x18 =>
  some x18)

noncomputable def mSlicesIndexFunc_2_L42 (l4 : (List Int)) (k59 : Nat) : (Unit) → Option ((Unit) ⊕ (Int)) := fun _ =>
  (idx l4 (k59 : Int)).bind fun x63 =>
  (mMendCheckTable_1 x63).bind fun x73 =>
  if x73 = true then (
  some (.inr (k59 : Int)))
  else (
  some (.inl ()))

/-- slices.IndexFunc[[]int,int] -/
noncomputable def mSlicesIndexFunc_2 (l4 : (List Int)) : Option (Int) :=
  (forM (mSlicesIndexFunc_2_L42 l4) l4.length 0 ()).bind fun t => Sum.elim (fun _ =>
  some (-1)) (fun q => some q) t

/-- slices.ContainsFunc[[]int,int] -/
noncomputable def mSlicesContainsFunc_2 (l4 : (List Int)) : Option (Bool) :=
  (mSlicesIndexFunc_2 l4).bind fun x8 =>
  some (decide (0 ≤ x8))

noncomputable def mMendCheckTable_L48 (l4 : (List (List Int))) (k68 : Nat) : (Unit) → Option ((Unit) ⊕ (Int)) := fun _ =>
  (idx l4 (k68 : Int)).bind fun x72 =>
  (mSlicesContainsFunc_2 x72).bind fun x85 =>
  if x85 = true then (
  some (.inr 2))
  else (
  some (.inl ()))

/-- fishplate/mend.checkTable -/
noncomputable def mMendCheckTable (l4 : (List (List Int))) : Option (Int) :=
  (forM (mMendCheckTable_L48 l4) l4.length 0 ()).bind fun t => Sum.elim (fun _ =>
  some 0) (fun q => some q) t

noncomputable def mMendClosure_L23701 (k20977 : Nat) (k23698 : Nat) (k24605 : Nat) : ((List (List Int))) → Option ((List (List Int))) := fun l24603 =>
  ((idx l24603 (k23698 : Int)).bind fun x24685 =>
  (idx x24685 (k20977 : Int)).bind fun x24705 =>
  if x24705 ≠ (-4611686018427387904) then (
  (idx l24603 (k20977 : Int)).bind fun x24722 =>
  (idx x24722 (k24605 : Int)).bind fun x24742 =>
  some (decide (x24742 ≠ (-4611686018427387904))))
  else (
  some false)).bind (fun x24683 =>
  if x24683 = true then (
  (idx l24603 (k23698 : Int)).bind fun x24906 =>
  (idx l24603 (k23698 : Int)).bind fun x24926 =>
  (idx x24926 (k24605 : Int)).bind fun x24946 =>
  (idx l24603 (k23698 : Int)).bind fun x24962 =>
  (idx x24962 (k20977 : Int)).bind fun x24982 =>
  (idx l24603 (k20977 : Int)).bind fun x24998 =>
  (idx x24998 (k24605 : Int)).bind fun x25018 =>
  (chk (x24982 + x25018)).bind fun _ =>
  (idx x24906 (k24605 : Int)).bind fun _ =>
  some (put l24603 (k23698 : Int) (put x24906 (k24605 : Int) (max x24946 (x24982 + x25018)))))
  else (
  some l24603))

noncomputable def mMendClosure_L20980 (k20977 : Nat) (k23698 : Nat) : ((List (List Int))) → Option ((List (List Int))) := fun l23696 =>
  (forS (mMendClosure_L23701 k20977 k23698) l23696.length 0 l23696).bind (fun l24603 =>
  some l24603)

noncomputable def mMendClosure_L25053  (k25217 : Nat) : ((List (List Int))) → Option (((List (List Int))) ⊕ (Int × (List (List Int)))) := fun l25215 =>
  (idx l25215 (k25217 : Int)).bind fun x25221 =>
  (idx x25221 (k25217 : Int)).bind fun x25241 =>
  if 0 < x25241 then (
  some (.inr (5, [])))
  else (
  (idx l25215 (k25217 : Int)).bind fun x25259 =>
  (idx x25259 (k25217 : Int)).bind fun _ =>
  some (.inl (put l25215 (k25217 : Int) (put x25259 (k25217 : Int) 0))))

noncomputable def mMendClosure_L12817  (k20977 : Nat) : ((List (List Int))) → Option ((List (List Int))) := fun l20975 =>
  (forS (mMendClosure_L20980 k20977) l20975.length 0 l20975).bind (fun l23696 =>
  some l23696)

noncomputable def mMendClosure_L12671 (l4 : (List (List Int))) (k12771 : Nat) : ((List (List Int))) → Option ((List (List Int))) := fun l12769 =>
  (idx l4 (k12771 : Int)).bind fun x12774 =>
  (mSlicesClone x12774).bind fun l12787 =>
  (idx l12769 (k12771 : Int)).bind fun _ =>
  some (put l12769 (k12771 : Int) l12787)

/-- fishplate/mend.Closure -/
noncomputable def mMendClosure (l4 : (List (List Int))) : Option (Int × (List (List Int))) :=
  if 8 < (l4.length : Int) then (
  some (4, []))
  else (
  (mSlicesContainsFunc l4 l4).bind fun x12657 =>
  if x12657 = true then (
  some (1, []))
  else (
  (mMendCheckTable l4).bind fun x12662 =>
  if x12662 ≠ 0 then (
  some (x12662, []))
  else (
  (mkLen 24 (l4.length : Int)).bind fun m12665 =>
  (forS (mMendClosure_L12671 l4) l4.length 0 (List.replicate m12665 (([] : List Int) : (List Int)) : (List (List Int)))).bind (fun l12769 =>
  (forS mMendClosure_L12817 l12769.length 0 l12769).bind (fun l20975 =>
  (forM mMendClosure_L25053 l20975.length 0 l20975).bind fun t => Sum.elim (fun l25215 =>
  some (0, l25215)) (fun q => some q) t)))))

noncomputable def mFishkeep2Wide_L218 (x205 : (List Int)) (k241 : Nat) : (Unit) → Option ((Unit) ⊕ ((Unit) ⊕ (Bool))) := fun _ =>
  (idx x205 (k241 : Int)).bind fun x245 =>
  (if x245 ≠ (-4611686018427387904) then (
  if x245 < (-1099511627776) then (
  some true)
  else (
  some (decide (1099511627776 < x245))))
  else (
  some false)).bind (fun x259 =>
  if x259 = true then (
  some (.inr (.inr true)))
  else (
  some (.inl ())))

noncomputable def mFishkeep2Wide_L137 (l4 : (List (List Int))) (k201 : Nat) : (Unit) → Option ((Unit) ⊕ (Bool)) := fun _ =>
  (idx l4 (k201 : Int)).bind fun x205 =>
  (forM (mFishkeep2Wide_L218 x205) x205.length 0 ()).bind fun t => Sum.elim (fun _ =>
  some (.inl ())) (fun q => some q) t

/-- fishplate/fishkeep2.wide -/
noncomputable def mFishkeep2Wide (l4 : (List (List Int))) : Option (Bool) :=
  (forM (mFishkeep2Wide_L137 l4) l4.length 0 ()).bind fun t => Sum.elim (fun _ =>
  some false) (fun q => some q) t

noncomputable def mSlicesEqualFunc_L80 (l4 : (List (List Int))) (l8 : (List (List Int))) (k113 : Nat) : (Unit) → Option ((Unit) ⊕ (Bool)) := fun _ =>
  (idx l4 (k113 : Int)).bind fun x117 =>
  (idx l8 (k113 : Int)).bind fun x130 =>
  (mSlicesEqual x117 x130).bind fun x143 =>
  if x143 = true then (
  some (.inl ()))
  else (
  some (.inr false))

/-- slices.EqualFunc[[][]int,[][]int,[]int,[]int] -/
noncomputable def mSlicesEqualFunc (l4 : (List (List Int))) (l8 : (List (List Int))) : Option (Bool) :=
  if (l4.length : Int) ≠ (l8.length : Int) then (
  some false)
  else (
  (forM (mSlicesEqualFunc_L80 l4 l8) l4.length 0 ()).bind fun t => Sum.elim (fun _ =>
  some true) (fun q => some q) t)

/-- fishplate/mend.Product-1 -/
noncomputable def mMendProduct_1 (l5 : (List Int)) (l9 : (List (List Int))) : Option (Bool) :=
  some (decide ((l5.length : Int) ≠ (l9.length : Int)))

noncomputable def mSlicesIndexFunc_3_L57 (l5 : (List (List Int))) (l9 : (List (List Int))) (k79 : Nat) : (Unit) → Option ((Unit) ⊕ (Int)) := fun _ =>
  (idx l5 (k79 : Int)).bind fun x83 =>
  (mMendProduct_1 x83 l9).bind fun x96 =>
  if x96 = true then (
  some (.inr (k79 : Int)))
  else (
  some (.inl ()))

/-- slices.IndexFunc[[][]int,[]int] -/
noncomputable def mSlicesIndexFunc_3 (l5 : (List (List Int))) (l9 : (List (List Int))) : Option (Int) :=
  (forM (mSlicesIndexFunc_3_L57 l5 l9) l5.length 0 ()).bind fun t => Sum.elim (fun _ =>
  some (-1)) (fun q => some q) t

/-- slices.ContainsFunc[[][]int,[]int] -/
noncomputable def mSlicesContainsFunc_3 (l5 : (List (List Int))) (l9 : (List (List Int))) : Option (Bool) :=
  (mSlicesIndexFunc_3 l5 l9).bind fun x15 =>
  some (decide (0 ≤ x15))

/-- fishplate/mend.Product-2 -/
noncomputable def mMendProduct_2 (l5 : (List Int)) (l9 : (List (List Int))) : Option (Bool) :=
  (idx l9 0).bind fun x24 =>
  some (decide ((l5.length : Int) ≠ (x24.length : Int)))

noncomputable def mSlicesIndexFunc_4_L57 (l5 : (List (List Int))) (l9 : (List (List Int))) (k79 : Nat) : (Unit) → Option ((Unit) ⊕ (Int)) := fun _ =>
  (idx l5 (k79 : Int)).bind fun x83 =>
  (mMendProduct_2 x83 l9).bind fun x96 =>
  if x96 = true then (
  some (.inr (k79 : Int)))
  else (
  some (.inl ()))

/-- slices.IndexFunc[[][]int,[]int] -/
noncomputable def mSlicesIndexFunc_4 (l5 : (List (List Int))) (l9 : (List (List Int))) : Option (Int) :=
  (forM (mSlicesIndexFunc_4_L57 l5 l9) l5.length 0 ()).bind fun t => Sum.elim (fun _ =>
  some (-1)) (fun q => some q) t

/-- slices.ContainsFunc[[][]int,[]int] -/
noncomputable def mSlicesContainsFunc_4 (l5 : (List (List Int))) (l9 : (List (List Int))) : Option (Bool) :=
  (mSlicesIndexFunc_4 l5 l9).bind fun x15 =>
  some (decide (0 ≤ x15))

noncomputable def mMendProduct_L14144 (l8 : (List (List Int))) (k12490 : Nat) (k14141 : Nat) (x12493 : (List Int)) (k14676 : Nat) : ((List (List Int))) → Option ((List (List Int))) := fun l14674 =>
  (idx x12493 (k14676 : Int)).bind fun x14679 =>
  (if x14679 ≠ (-4611686018427387904) then (
  (idx l8 (k14676 : Int)).bind fun x14718 =>
  (idx x14718 (k14141 : Int)).bind fun x14731 =>
  some (decide (x14731 ≠ (-4611686018427387904))))
  else (
  some false)).bind (fun x14715 =>
  if x14715 = true then (
  (idx l14674 (k12490 : Int)).bind fun x14840 =>
  (idx l14674 (k12490 : Int)).bind fun x14860 =>
  (idx x14860 (k14141 : Int)).bind fun x14880 =>
  (idx l8 (k14676 : Int)).bind fun x14896 =>
  (idx x14896 (k14141 : Int)).bind fun x14909 =>
  (chk (x14679 + x14909)).bind fun _ =>
  (idx x14840 (k14141 : Int)).bind fun _ =>
  some (put l14674 (k12490 : Int) (put x14840 (k14141 : Int) (max x14880 (x14679 + x14909)))))
  else (
  some l14674))

noncomputable def mMendProduct_L12539 (l8 : (List (List Int))) (k12490 : Nat) (x12493 : (List Int)) (k14141 : Nat) : ((List (List Int))) → Option ((List (List Int))) := fun l14139 =>
  (forS (mMendProduct_L14144 l8 k12490 k14141 x12493) x12493.length 0 l14139).bind (fun l14674 =>
  some l14674)

noncomputable def mMendProduct_L7586 (l4 : (List (List Int))) (l8 : (List (List Int))) (x7524 : Int) (k12490 : Nat) : ((List (List Int))) → Option ((List (List Int))) := fun l12488 =>
  (idx l4 (k12490 : Int)).bind fun x12493 =>
  (mSlicesRepeat [(-4611686018427387904)] x7524).bind fun l12509 =>
  (idx l12488 (k12490 : Int)).bind fun _ =>
  (chk x7524).bind fun _ =>
  (forS (mMendProduct_L12539 l8 k12490 x12493) ((x7524).toNat) 0 (put l12488 (k12490 : Int) l12509)).bind (fun l14139 =>
  some l14139)

noncomputable def mMendProduct_L7541 (l4 : (List (List Int))) (l8 : (List (List Int))) (k7559 : Nat) : (Unit) → Option ((Unit) ⊕ (Int × (List (List Int)))) := fun _ =>
  (idx [l4, l8] (k7559 : Int)).bind fun x7563 =>
  (mMendCheckTable x7563).bind fun x7575 =>
  if x7575 ≠ 0 then (
  some (.inr (x7575, [])))
  else (
  some (.inl ()))

/-- fishplate/mend.Product -/
noncomputable def mMendProduct (l4 : (List (List Int))) (l8 : (List (List Int))) : Option (Int × (List (List Int))) :=
  (if 8 < (l4.length : Int) then (
  some true)
  else (
  some (decide (8 < (l8.length : Int))))).bind (fun x7481 =>
  if x7481 = true then (
  some (4, []))
  else (
  ((mSlicesContainsFunc_3 l4 l8).bind fun x7498 =>
  if x7498 = true then (
  some true)
  else (
  (mSlicesContainsFunc_4 l8 l8).bind fun x7503 =>
  some x7503)).bind (fun x7496 =>
  if x7496 = true then (
  some (1, []))
  else (
  (if 0 < (l8.length : Int) then (
  (idx l8 0).bind fun x7527 =>
  some (x7527.length : Int))
  else (
  some 0)).bind (fun x7524 =>
  if 8 < x7524 then (
  some (4, []))
  else (
  (forM (mMendProduct_L7541 l4 l8) 2 0 ()).bind fun t => Sum.elim (fun _ =>
  (mkLen 24 (l4.length : Int)).bind fun m7580 =>
  (forS (mMendProduct_L7586 l4 l8 x7524) l4.length 0 (List.replicate m7580 (([] : List Int) : (List Int)) : (List (List Int)))).bind (fun l12488 =>
  some (0, l12488))) (fun q => some q) t))))))

noncomputable def mFishkeep2MendCloses_L1419  (_k1500 : Nat) : ((List (List Int)) × (List (List Int))) → Option (((List (List Int)) × (List (List Int))) ⊕ (Bool)) := unc2 fun l1495 l1499 =>
  (mFishkeep2Wide l1499).bind fun x1504 =>
  if x1504 = true then (
  some (.inr true))
  else (
  (mMendProduct l1499 l1495).bind (unc2 fun x1508 l1509 =>
  if x1508 ≠ 0 then (
  some (.inr false))
  else (
  some (.inl (l1495, l1509)))))

noncomputable def mFishkeep2MendCloses_L823 (l4 : (List (List Int))) (k1221 : Nat) : ((List (List Int))) → Option (((List (List Int))) ⊕ (Bool)) := fun l1219 =>
  (idx l4 (k1221 : Int)).bind fun x1225 =>
  if (x1225.length : Int) ≠ (l4.length : Int) then (
  some (.inr false))
  else (
  (mSlicesClone x1225).bind fun l1240 =>
  (idx l1219 (k1221 : Int)).bind fun _ =>
  (idx (put l1219 (k1221 : Int) l1240) (k1221 : Int)).bind fun x1344 =>
  (idx (put l1219 (k1221 : Int) l1240) (k1221 : Int)).bind fun x1364 =>
  (idx x1364 (k1221 : Int)).bind fun x1384 =>
  (idx x1344 (k1221 : Int)).bind fun _ =>
  some (.inl (put (put l1219 (k1221 : Int) l1240) (k1221 : Int) (put x1344 (k1221 : Int) (max x1384 0)))))

/-- fishplate/fishkeep2.MendCloses -/
noncomputable def mFishkeep2MendCloses (l4 : (List (List Int))) : Option (Bool) :=
  (mFishkeep2AwakeMend).bind fun x766 =>
  if x766 = true then (
  (mFishkeep2Rounds).bind fun x769 =>
  if x769 = true then (
  (mMendClosure l4).bind (unc2 fun x772 l773 =>
  if x772 ≠ 0 then (
  some (decide ((l773.length : Int) = 0)))
  else (
  (mMendClosure l773).bind (unc2 fun x786 l787 =>
  (if x786 ≠ 0 then (
  (mFishkeep2Wide l773).bind fun x803 =>
  some (!x803))
  else (
  some false)).bind (fun x800 =>
  if x800 = true then (
  some false)
  else (
  (if x786 = 0 then (
  (mSlicesEqualFunc l787 l773).bind fun x814 =>
  some (!x814))
  else (
  some false)).bind (fun x811 =>
  if x811 = true then (
  some false)
  else (
  (mkLen 24 (l4.length : Int)).bind fun m817 =>
  (forM (mFishkeep2MendCloses_L823 l4) l4.length 0 (List.replicate m817 (([] : List Int) : (List Int)) : (List (List Int)))).bind fun t => Sum.elim (fun l1219 =>
  (forM mFishkeep2MendCloses_L1419 l4.length 0 (l1219, l1219)).bind fun t => Sum.elim (unc2 fun _ l1499 =>
  (mSlicesEqualFunc l1499 l773).bind fun x1524 =>
  some x1524) (fun q => some q) t) (fun q => some q) t))))))))
  else (
  some false))
  else (
  some false)

end Go.Proofs.Ytakehdnblmonlaa
