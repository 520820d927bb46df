/- The models of the functions, as the extractor printed them. -/
import Derived.Test.YtnmhabgnfifkdaaXA
import Derived.Test.YtnmhabgnfifkdaaXW
set_option linter.unusedVariables false
set_option linter.unusedSimpArgs false
namespace Go.Proofs.Ytnmhabgnfifkdaa
open Go.RowKit Go.Fp

structure ApiStop where
  Station : Int
  Track : Int
  Arr : Int
  Dep : Int
  deriving DecidableEq
def rApiStop : RT ApiStop := (RT.cat (RT.on (RT.int .i64) ApiStop.Station) (RT.cat (RT.on (RT.int .i64) ApiStop.Track) (RT.cat (RT.on (RT.int .i64) ApiStop.Arr) (RT.on (RT.int .i64) ApiStop.Dep))))
structure ApiTrain where
  No : Int
  Stock : Int
  Stops : (List ApiStop)
  Legs : (List (List Int))
def rApiTrain : RT ApiTrain := (RT.cat (RT.on (RT.int .i64) ApiTrain.No) (RT.cat (RT.on (RT.int .i64) ApiTrain.Stock) (RT.cat (RT.on (RT.list rApiStop) ApiTrain.Stops) (RT.on (RT.list (RT.list (RT.int .i64))) ApiTrain.Legs))))
structure ApiDay where
  Trains : (List ApiTrain)
  Turns : (List (List Int))
def rApiDay : RT ApiDay := (RT.cat (RT.on (RT.list rApiTrain) ApiDay.Trains) (RT.on (RT.list (RT.list (RT.int .i64))) ApiDay.Turns))
structure FleetLimits where
  Change : Int
  Long : Int
  Work : Int
  After : Int
  Break : Int
  Rest : Int
  Row : Int
  deriving DecidableEq
def rFleetLimits : RT FleetLimits := (RT.cat (RT.on (RT.int .i64) FleetLimits.Change) (RT.cat (RT.on (RT.int .i64) FleetLimits.Long) (RT.cat (RT.on (RT.int .i64) FleetLimits.Work) (RT.cat (RT.on (RT.int .i64) FleetLimits.After) (RT.cat (RT.on (RT.int .i64) FleetLimits.Break) (RT.cat (RT.on (RT.int .i64) FleetLimits.Rest) (RT.on (RT.int .i64) FleetLimits.Row)))))))
structure FleetAbsence where
  Driver : Int
  Day : Int
  deriving DecidableEq
def rFleetAbsence : RT FleetAbsence := (RT.cat (RT.on (RT.int .i64) FleetAbsence.Driver) (RT.on (RT.int .i64) FleetAbsence.Day))
structure FleetTask where
  From : Int
  To : Int
  Dep : Int
  Arr : Int
  Km : Int
  Units : Int
  deriving DecidableEq
def rFleetTask : RT FleetTask := (RT.cat (RT.on (RT.int .i64) FleetTask.From) (RT.cat (RT.on (RT.int .i64) FleetTask.To) (RT.cat (RT.on (RT.int .i64) FleetTask.Dep) (RT.cat (RT.on (RT.int .i64) FleetTask.Arr) (RT.cat (RT.on (RT.int .i64) FleetTask.Km) (RT.on (RT.int .i64) FleetTask.Units))))))
structure FleetShift where
  Day : Int
  Start : Int
  End : Int
  deriving DecidableEq
def rFleetShift : RT FleetShift := (RT.cat (RT.on (RT.int .i64) FleetShift.Day) (RT.cat (RT.on (RT.int .i64) FleetShift.Start) (RT.on (RT.int .i64) FleetShift.End)))

/-- fishplate/fleet.within -/
noncomputable def mFleetWithin (x1 : Int) (x2 : Int) (x3 : Int) : Option (Bool) :=
  (if x2 ≤ x1 then (
  some (decide (x1 ≤ x3)))
  else (
  some false)).bind (fun x14 =>
  some x14)

noncomputable def mFleetCheckTasks_L128 (l4 : (List FleetTask)) (k186 : Nat) : (Unit) → Option ((Unit) ⊕ (Int)) := fun _ =>
  (idx l4 (k186 : Int)).bind fun x190 =>
  ((mFleetWithin x190.From 0 11).bind fun x216 =>
  if x216 = true then (
  (mFleetWithin x190.To 0 11).bind fun x219 =>
  if x219 = true then (
  (mFleetWithin x190.Dep 0 28800).bind fun x222 =>
  if x222 = true then (
  (mFleetWithin x190.Arr 0 28800).bind fun x225 =>
  some (!x225))
  else (
  some true))
  else (
  some true))
  else (
  some true)).bind (fun x214 =>
  if x214 = true then (
  some (.inr 2))
  else (
  if x190.Arr ≤ x190.Dep then (
  some (.inr 13))
  else (
  ((mFleetWithin x190.Km 0 10000).bind fun x240 =>
  if x240 = true then (
  (mFleetWithin x190.Units 1 4).bind fun x243 =>
  some (!x243))
  else (
  some true)).bind (fun x238 =>
  if x238 = true then (
  some (.inr 2))
  else (
  some (.inl ()))))))

/-- fishplate/fleet.CheckTasks -/
noncomputable def mFleetCheckTasks (l4 : (List FleetTask)) : Option (Int) :=
  if 40 < (l4.length : Int) then (
  some 4)
  else (
  (forM (mFleetCheckTasks_L128 l4) l4.length 0 ()).bind fun t => Sum.elim (fun _ =>
  some 0) (fun q => some q) t)

/-- fishplate/fleet.checkTurn -/
noncomputable def mFleetCheckTurn (l4 : (List FleetTask)) (x5 : Int) : Option (Int) :=
  (mFleetCheckTasks l4).bind fun x13 =>
  if x13 ≠ 0 then (
  some x13)
  else (
  (mFleetWithin x5 0 28800).bind fun x16 =>
  if x16 = true then (
  some 0)
  else (
  some 2))

/-- cmp.isNaN[int] -/
noncomputable def mCmpIsNaN (x1 : Int) : Option (Bool) :=
  some (decide (x1 ≠ x1))

/-- cmp.Compare[int] -/
noncomputable def mCmpCompare (x1 : Int) (x2 : Int) : Option (Int) :=
  (mCmpIsNaN x1).bind fun x13 =>
  (mCmpIsNaN x2).bind fun x15 =>
  if x13 = true then (
  if x15 = true then (
  some 0)
  else (
  some (-1)))
  else (
  if x15 = true then (
  some 1)
  else (
  if x1 < x2 then (
  some (-1))
  else (
  if x2 < x1 then (
  some 1)
  else (
  some 0))))

/-- fishplate/fleet.order-1 -/
noncomputable def mFleetOrder_1 (x2 : Int) (x3 : Int) (l7 : (List FleetTask)) : Option (Int) :=
  (idx l7 x2).bind fun x75 =>
  (idx l7 x3).bind fun x85 =>
  (mCmpCompare x75.Dep x85.Dep).bind fun x95 =>
  some x95

noncomputable def mSlicesInsertionSortCmpFunc_L10109 (x7 : Int) (l12 : (List FleetTask)) : (Int × (List Int)) → Option ((Int × (List Int)) ⊕ ((List Int))) := unc2 fun x10717 l10718 =>
  (if x7 < x10717 then (
  (idx l10718 x10717).bind fun x10839 =>
  (chk (x10717 - 1)).bind fun _ =>
  (idx l10718 (x10717 - 1)).bind fun x10856 =>
  (mFleetOrder_1 x10839 x10856 l12).bind fun x10872 =>
  some (decide (x10872 < 0)))
  else (
  some false)).bind (fun x10798 =>
  if x10798 = true then (
  (chk (x10717 - 1)).bind fun _ =>
  (chk (x10717 - 1)).bind fun _ =>
  (idx l10718 (x10717 - 1)).bind fun x10949 =>
  (idx l10718 x10717).bind fun x10965 =>
  (idx l10718 x10717).bind fun _ =>
  (idx (put l10718 x10717 x10949) (x10717 - 1)).bind fun _ =>
  (chk (x10717 - 1)).bind fun _ =>
  some (.inl (x10717 - 1, put (put l10718 x10717 x10949) (x10717 - 1) x10965)))
  else (
  some (.inr l10718)))

noncomputable def mSlicesInsertionSortCmpFunc_L5520 (x7 : Int) (x8 : Int) (l12 : (List FleetTask)) : (Int × (List Int)) → Option ((Int × (List Int)) ⊕ ((List Int))) := unc2 fun x9188 l9189 =>
  if x9188 < x8 then (
  (loopM (mSlicesInsertionSortCmpFunc_L10109 x7 l12) (x9188, l9189)).bind (fun l10106 =>
  (chk (x9188 + 1)).bind fun _ =>
  some (.inl (x9188 + 1, l10106))))
  else (
  some (.inr l9189))

/-- slices.insertionSortCmpFunc[int] -/
noncomputable def mSlicesInsertionSortCmpFunc (x7 : Int) (x8 : Int) (l12 : (List FleetTask)) (l13 : (List Int)) : Option ((List Int)) :=
  (chk (x7 + 1)).bind fun _ =>
  loopM (mSlicesInsertionSortCmpFunc_L5520 x7 x8 l12) (x7 + 1, l13)

noncomputable def mSlicesSwapRangeCmpFunc_L473 (x7 : Int) (x8 : Int) (x9 : Int) : (Int × (List Int)) → Option ((Int × (List Int)) ⊕ ((List Int))) := unc2 fun x777 l778 =>
  if x777 < x9 then (
  (chk (x7 + x777)).bind fun _ =>
  (chk (x8 + x777)).bind fun _ =>
  (chk (x8 + x777)).bind fun _ =>
  (idx l778 (x8 + x777)).bind fun x856 =>
  (chk (x7 + x777)).bind fun _ =>
  (idx l778 (x7 + x777)).bind fun x873 =>
  (idx l778 (x7 + x777)).bind fun _ =>
  (idx (put l778 (x7 + x777) x856) (x8 + x777)).bind fun _ =>
  (chk (x777 + 1)).bind fun _ =>
  some (.inl (x777 + 1, put (put l778 (x7 + x777) x856) (x8 + x777) x873)))
  else (
  some (.inr l778))

/-- slices.swapRangeCmpFunc[int] -/
noncomputable def mSlicesSwapRangeCmpFunc (x7 : Int) (x8 : Int) (x9 : Int) (_l13 : (List FleetTask)) (l14 : (List Int)) : Option ((List Int)) :=
  loopM (mSlicesSwapRangeCmpFunc_L473 x7 x8 x9) (0, l14)

noncomputable def mSlicesRotateCmpFunc_L299 (x8 : Int) (l13 : (List FleetTask)) : (Int × Int × (List Int)) → Option ((Int × Int × (List Int)) ⊕ (Int × (List Int))) := unc3 fun x356 x357 l358 =>
  if x356 ≠ x357 then (
  if x357 < x356 then (
  (chk (x8 - x356)).bind fun _ =>
  (mSlicesSwapRangeCmpFunc (x8 - x356) x8 x357 l13 l358).bind fun l363 =>
  (chk (x356 - x357)).bind fun _ =>
  some (.inl (x356 - x357, x357, l363)))
  else (
  (chk (x8 - x356)).bind fun _ =>
  (chk (x8 + x357)).bind fun _ =>
  (chk ((x8 + x357) - x356)).bind fun _ =>
  (mSlicesSwapRangeCmpFunc (x8 - x356) ((x8 + x357) - x356) x356 l13 l358).bind fun l374 =>
  (chk (x357 - x356)).bind fun _ =>
  some (.inl (x356, x357 - x356, l374))))
  else (
  some (.inr (x356, l358)))

/-- slices.rotateCmpFunc[int] -/
noncomputable def mSlicesRotateCmpFunc (x7 : Int) (x8 : Int) (x9 : Int) (l13 : (List FleetTask)) (l14 : (List Int)) : Option ((List Int)) :=
  (chk (x8 - x7)).bind fun _ =>
  (chk (x9 - x8)).bind fun _ =>
  (loopM (mSlicesRotateCmpFunc_L299 x8 l13) (x8 - x7, x9 - x8, l14)).bind (unc2 fun x295 l296 =>
  (chk (x8 - x295)).bind fun _ =>
  (mSlicesSwapRangeCmpFunc (x8 - x295) x8 x295 l13 l296).bind fun l383 =>
  some l383)

noncomputable def mSlicesSymMergeCmpFunc_L6927 (x7 : Int) (l13 : (List FleetTask)) (l14 : (List Int)) : (Int × Int) → Option ((Int × Int) ⊕ (Int)) := unc2 fun x7086 x7087 =>
  if x7086 < x7087 then (
  (chk (x7086 + x7087)).bind fun _ =>
  (shN 1).bind fun _ =>
  (idx l14 (IntKind.wrap .i64 (shrI .u64 (IntKind.wrap .u64 (x7086 + x7087)) 1))).bind fun x7127 =>
  (idx l14 x7).bind fun x7143 =>
  (mFleetOrder_1 x7127 x7143 l13).bind fun x7159 =>
  if x7159 < 0 then (
  (chk ((IntKind.wrap .i64 (shrI .u64 (IntKind.wrap .u64 (x7086 + x7087)) 1)) + 1)).bind fun _ =>
  some (.inl ((IntKind.wrap .i64 (shrI .u64 (IntKind.wrap .u64 (x7086 + x7087)) 1)) + 1, x7087)))
  else (
  some (.inl (x7086, IntKind.wrap .i64 (shrI .u64 (IntKind.wrap .u64 (x7086 + x7087)) 1)))))
  else (
  some (.inr x7086))

noncomputable def mSlicesSymMergeCmpFunc_L7617 (x6925 : Int) : (Int × (List Int)) → Option ((Int × (List Int)) ⊕ ((List Int))) := unc2 fun x7915 l7916 =>
  (chk (x6925 - 1)).bind fun _ =>
  if x7915 < (x6925 - 1) then (
  (chk (x7915 + 1)).bind fun _ =>
  (chk (x7915 + 1)).bind fun _ =>
  (idx l7916 (x7915 + 1)).bind fun x7992 =>
  (idx l7916 x7915).bind fun x8008 =>
  (idx l7916 x7915).bind fun _ =>
  (idx (put l7916 x7915 x7992) (x7915 + 1)).bind fun _ =>
  (chk (x7915 + 1)).bind fun _ =>
  some (.inl (x7915 + 1, put (put l7916 x7915 x7992) (x7915 + 1) x8008)))
  else (
  some (.inr l7916))

noncomputable def mSlicesSymMergeCmpFunc_L8305 (x8 : Int) (l13 : (List FleetTask)) (l14 : (List Int)) : (Int × Int) → Option ((Int × Int) ⊕ (Int)) := unc2 fun x8464 x8465 =>
  if x8464 < x8465 then (
  (chk (x8464 + x8465)).bind fun _ =>
  (shN 1).bind fun _ =>
  (idx l14 x8).bind fun x8505 =>
  (idx l14 (IntKind.wrap .i64 (shrI .u64 (IntKind.wrap .u64 (x8464 + x8465)) 1))).bind fun x8521 =>
  (mFleetOrder_1 x8505 x8521 l13).bind fun x8537 =>
  if x8537 < 0 then (
  some (.inl (x8464, IntKind.wrap .i64 (shrI .u64 (IntKind.wrap .u64 (x8464 + x8465)) 1))))
  else (
  (chk ((IntKind.wrap .i64 (shrI .u64 (IntKind.wrap .u64 (x8464 + x8465)) 1)) + 1)).bind fun _ =>
  some (.inl ((IntKind.wrap .i64 (shrI .u64 (IntKind.wrap .u64 (x8464 + x8465)) 1)) + 1, x8465))))
  else (
  some (.inr x8464))

noncomputable def mSlicesSymMergeCmpFunc_L8992 (x8303 : Int) : (Int × (List Int)) → Option ((Int × (List Int)) ⊕ ((List Int))) := unc2 fun x9288 l9289 =>
  if x8303 < x9288 then (
  (chk (x9288 - 1)).bind fun _ =>
  (chk (x9288 - 1)).bind fun _ =>
  (idx l9289 (x9288 - 1)).bind fun x9364 =>
  (idx l9289 x9288).bind fun x9380 =>
  (idx l9289 x9288).bind fun _ =>
  (idx (put l9289 x9288 x9364) (x9288 - 1)).bind fun _ =>
  (chk (x9288 - 1)).bind fun _ =>
  some (.inl (x9288 - 1, put (put l9289 x9288 x9364) (x9288 - 1) x9380)))
  else (
  some (.inr l9289))

noncomputable def mSlicesSymMergeCmpFunc_L9694 (x7 : Int) (x8 : Int) (x9 : Int) (l13 : (List FleetTask)) (l14 : (List Int)) : (Int × Int) → Option ((Int × Int) ⊕ (Int)) := unc2 fun x9857 x9858 =>
  if x9857 < x9858 then (
  (chk (x9857 + x9858)).bind fun _ =>
  (shN 1).bind fun _ =>
  (chk ((((IntKind.wrap .i64 (shrI .u64 (IntKind.wrap .u64 (x7 + x9)) 1)) + x8) - 1) - (IntKind.wrap .i64 (shrI .u64 (IntKind.wrap .u64 (x9857 + x9858)) 1)))).bind fun _ =>
  (idx l14 ((((IntKind.wrap .i64 (shrI .u64 (IntKind.wrap .u64 (x7 + x9)) 1)) + x8) - 1) - (IntKind.wrap .i64 (shrI .u64 (IntKind.wrap .u64 (x9857 + x9858)) 1)))).bind fun x9900 =>
  (idx l14 (IntKind.wrap .i64 (shrI .u64 (IntKind.wrap .u64 (x9857 + x9858)) 1))).bind fun x9916 =>
  (mFleetOrder_1 x9900 x9916 l13).bind fun x9932 =>
  if x9932 < 0 then (
  some (.inl (x9857, IntKind.wrap .i64 (shrI .u64 (IntKind.wrap .u64 (x9857 + x9858)) 1))))
  else (
  (chk ((IntKind.wrap .i64 (shrI .u64 (IntKind.wrap .u64 (x9857 + x9858)) 1)) + 1)).bind fun _ =>
  some (.inl ((IntKind.wrap .i64 (shrI .u64 (IntKind.wrap .u64 (x9857 + x9858)) 1)) + 1, x9858))))
  else (
  some (.inr x9857))

/-- slices.symMergeCmpFunc[int] -/
noncomputable def mSlicesSymMergeCmpFunc : Nat → (Int) → (Int) → (Int) → ((List FleetTask)) → ((List Int)) → Option ((List Int))
  | 0 => fun _ _ _ _ _ => none
  | N + 1 => fun x7 x8 x9 l13 l14 =>
  (chk (x8 - x7)).bind fun _ =>
  if (x8 - x7) = 1 then (
  (loopM (mSlicesSymMergeCmpFunc_L6927 x7 l13 l14) (x8, x9)).bind (fun x6925 =>
  (loopM (mSlicesSymMergeCmpFunc_L7617 x6925) (x7, l14)).bind (fun l7614 =>
  some l7614)))
  else (
  (chk (x9 - x8)).bind fun _ =>
  if (x9 - x8) = 1 then (
  (loopM (mSlicesSymMergeCmpFunc_L8305 x8 l13 l14) (x7, x8)).bind (fun x8303 =>
  (loopM (mSlicesSymMergeCmpFunc_L8992 x8303) (x8, l14)).bind (fun l8989 =>
  some l8989)))
  else (
  (chk (x7 + x9)).bind fun _ =>
  (shN 1).bind fun _ =>
  (chk ((IntKind.wrap .i64 (shrI .u64 (IntKind.wrap .u64 (x7 + x9)) 1)) + x8)).bind fun _ =>
  (if (IntKind.wrap .i64 (shrI .u64 (IntKind.wrap .u64 (x7 + x9)) 1)) < x8 then (
  (chk (((IntKind.wrap .i64 (shrI .u64 (IntKind.wrap .u64 (x7 + x9)) 1)) + x8) - x9)).bind fun _ =>
  some (((IntKind.wrap .i64 (shrI .u64 (IntKind.wrap .u64 (x7 + x9)) 1)) + x8) - x9, IntKind.wrap .i64 (shrI .u64 (IntKind.wrap .u64 (x7 + x9)) 1)))
  else (
  some (x7, x8))).bind (unc2 fun x9440 x9441 =>
  (chk (((IntKind.wrap .i64 (shrI .u64 (IntKind.wrap .u64 (x7 + x9)) 1)) + x8) - 1)).bind fun _ =>
  (loopM (mSlicesSymMergeCmpFunc_L9694 x7 x8 x9 l13 l14) (x9440, x9441)).bind (fun x9692 =>
  (chk (((IntKind.wrap .i64 (shrI .u64 (IntKind.wrap .u64 (x7 + x9)) 1)) + x8) - x9692)).bind fun _ =>
  ((if x9692 < x8 then (
  some (decide (x8 < (((IntKind.wrap .i64 (shrI .u64 (IntKind.wrap .u64 (x7 + x9)) 1)) + x8) - x9692))))
  else (
  some false)).bind (fun x9964 =>
  if x9964 = true then (
  (mSlicesRotateCmpFunc x9692 x8 (((IntKind.wrap .i64 (shrI .u64 (IntKind.wrap .u64 (x7 + x9)) 1)) + x8) - x9692) l13 l14).bind fun l9968 =>
  some l9968)
  else (
  some l14))).bind (fun l9958 =>
  ((if x7 < x9692 then (
  some (decide (x9692 < (IntKind.wrap .i64 (shrI .u64 (IntKind.wrap .u64 (x7 + x9)) 1)))))
  else (
  some false)).bind (fun x10000 =>
  if x10000 = true then (
  ((mSlicesSymMergeCmpFunc N) x7 x9692 (IntKind.wrap .i64 (shrI .u64 (IntKind.wrap .u64 (x7 + x9)) 1)) l13 l9958).bind fun l10004 =>
  some l10004)
  else (
  some l9958))).bind (fun l9994 =>
  (if (IntKind.wrap .i64 (shrI .u64 (IntKind.wrap .u64 (x7 + x9)) 1)) < (((IntKind.wrap .i64 (shrI .u64 (IntKind.wrap .u64 (x7 + x9)) 1)) + x8) - x9692) then (
  some (decide ((((IntKind.wrap .i64 (shrI .u64 (IntKind.wrap .u64 (x7 + x9)) 1)) + x8) - x9692) < x9)))
  else (
  some false)).bind (fun x10014 =>
  if x10014 = true then (
  ((mSlicesSymMergeCmpFunc N) (IntKind.wrap .i64 (shrI .u64 (IntKind.wrap .u64 (x7 + x9)) 1)) (((IntKind.wrap .i64 (shrI .u64 (IntKind.wrap .u64 (x7 + x9)) 1)) + x8) - x9692) x9 l13 l9994).bind fun l10018 =>
  some l10018)
  else (
  some l9994))))))))

noncomputable def mSlicesStableCmpFunc_L604 (x7 : Int) (l11 : (List FleetTask)) : (Int × Int × (List Int)) → Option ((Int × Int × (List Int)) ⊕ (Int × (List Int))) := unc3 fun x635 x636 l637 =>
  if x636 ≤ x7 then (
  (mSlicesInsertionSortCmpFunc x635 x636 l11 l637).bind fun l640 =>
  (chk (x636 + 20)).bind fun _ =>
  some (.inl (x636, x636 + 20, l640)))
  else (
  some (.inr (x635, l637)))

noncomputable def mSlicesStableCmpFunc_L1007 (x7 : Int) (l11 : (List FleetTask)) (x943 : Int) : (Int × Int × (List Int)) → Option ((Int × Int × (List Int)) ⊕ (Int × (List Int))) := unc3 fun x1042 x1043 l1044 =>
  if x1043 ≤ x7 then (
  (chk (x1042 + x943)).bind fun _ =>
  (lim (fun N => mSlicesSymMergeCmpFunc N x1042 (x1042 + x943) x1043 l11 l1044)).bind fun l1048 =>
  (chk (2 * x943)).bind fun _ =>
  (chk (x1043 + (2 * x943))).bind fun _ =>
  some (.inl (x1043, x1043 + (2 * x943), l1048)))
  else (
  some (.inr (x1042, l1044)))

noncomputable def mSlicesStableCmpFunc_L655 (x7 : Int) (l11 : (List FleetTask)) : (Int × (List Int)) → Option ((Int × (List Int)) ⊕ ((List Int))) := unc2 fun x943 l944 =>
  if x943 < x7 then (
  (chk (2 * x943)).bind fun _ =>
  (loopM (mSlicesStableCmpFunc_L1007 x7 l11 x943) (0, 2 * x943, l944)).bind (unc2 fun x1003 l1004 =>
  ((chk (x1003 + x943)).bind fun _ =>
  if (x1003 + x943) < x7 then (
  (lim (fun N => mSlicesSymMergeCmpFunc N x1003 (x1003 + x943) x7 l11 l1004)).bind fun l1076 =>
  some l1076)
  else (
  some l1004)).bind (fun l1071 =>
  (chk (x943 * 2)).bind fun _ =>
  some (.inl (x943 * 2, l1071)))))
  else (
  some (.inr l944))

/-- slices.stableCmpFunc[int] -/
noncomputable def mSlicesStableCmpFunc (x7 : Int) (l11 : (List FleetTask)) (l12 : (List Int)) : Option ((List Int)) :=
  (loopM (mSlicesStableCmpFunc_L604 x7 l11) (0, 20, l12)).bind (unc2 fun x600 l601 =>
  (mSlicesInsertionSortCmpFunc x600 x7 l11 l601).bind fun l648 =>
  loopM (mSlicesStableCmpFunc_L655 x7 l11) (20, l648))

/-- slices.SortStableFunc[[]int,int] -/
noncomputable def mSlicesSortStableFunc (l10 : (List FleetTask)) (l11 : (List Int)) : Option ((List Int)) :=
  (mSlicesStableCmpFunc (l11.length : Int) l10 l11).bind fun l24 =>
  some l24

noncomputable def mFleetOrder_L103  (k153 : Nat) : ((List Int)) → Option ((List Int)) := fun l151 =>
  (idx l151 (k153 : Int)).bind fun _ =>
  some (put l151 (k153 : Int) (k153 : Int))

/-- fishplate/fleet.order -/
noncomputable def mFleetOrder (l4 : (List FleetTask)) : Option ((List Int)) :=
  (mkLen 8 (l4.length : Int)).bind fun m97 =>
  (forS mFleetOrder_L103 ((List.replicate m97 (0 : Int)).length) 0 (List.replicate m97 (0 : Int))).bind (fun l151 =>
  (mSlicesSortStableFunc l4 l151).bind fun l174 =>
  some l174)

/-- fishplate/fleet.follows -/
noncomputable def mFleetFollows (s1 : FleetTask) (s2 : FleetTask) (x3 : Int) : Option (Bool) :=
  (if s2.From = s1.To then (
  (chk (s1.Arr + x3)).bind fun _ =>
  some (decide ((s1.Arr + x3) ≤ s2.Dep)))
  else (
  some false)).bind (fun x21 =>
  some x21)

noncomputable def mFleetTurns_L23978 (l4 : (List FleetTask)) (x5 : Int) (l23974 : (List (List Int))) (x21087 : Int) (k24884 : Nat) : (Int) → Option (Int) := fun x24883 =>
  (idx l23974 (k24884 : Int)).bind fun x24887 =>
  (chk ((x24887.length : Int) - 1)).bind fun _ =>
  (idx x24887 ((x24887.length : Int) - 1)).bind fun x24908 =>
  (if x24908 ≠ x21087 then (
  (idx l4 x24908).bind fun x25235 =>
  (idx l4 x21087).bind fun x25245 =>
  (mFleetFollows x25235 x25245 x5).bind fun x25255 =>
  if x25255 = true then (
  if x24883 < 0 then (
  some true)
  else (
  (idx l4 x24908).bind fun x25259 =>
  (idx l23974 x24883).bind fun x25269 =>
  (idx l23974 x24883).bind fun x25289 =>
  (chk ((x25289.length : Int) - 1)).bind fun _ =>
  (idx x25269 ((x25289.length : Int) - 1)).bind fun x25310 =>
  (idx l4 x25310).bind fun x25326 =>
  some (decide (x25259.Arr < x25326.Arr))))
  else (
  some false))
  else (
  some false)).bind (fun x25130 =>
  if x25130 = true then (
  some (k24884 : Int))
  else (
  some x24883))

noncomputable def mFleetTurns_L21113 (l4 : (List FleetTask)) (x5 : Int) (x21087 : Int) (_k23975 : Nat) : ((List (List Int))) → Option ((List (List Int))) := fun l23974 =>
  (forS (mFleetTurns_L23978 l4 x5 l23974 x21087) l23974.length 0 (-1)).bind (fun x24883 =>
  (if x24883 < 0 then (
  (room 24 (l23974.length + 1)).bind fun _ =>
  (chk (((l23974 ++ [[]]).length : Int) - 1)).bind fun _ =>
  some (((l23974 ++ [[]]).length : Int) - 1, l23974 ++ [[]]))
  else (
  some (x24883, l23974))).bind (unc2 fun x25352 l25353 =>
  (idx l25353 x25352).bind fun x25363 =>
  (room 8 (x25363.length + 1)).bind fun _ =>
  (idx l25353 x25352).bind fun _ =>
  some (put l25353 x25352 (x25363 ++ [x21087]))))

noncomputable def mFleetTurns_L12718 (l4 : (List FleetTask)) (x5 : Int) (l12710 : (List Int)) (k21084 : Nat) : ((List (List Int))) → Option ((List (List Int))) := fun l21083 =>
  (idx l12710 (k21084 : Int)).bind fun x21087 =>
  (idx l4 x21087).bind fun x21103 =>
  (chk x21103.Units).bind fun _ =>
  (forS (mFleetTurns_L21113 l4 x5 x21087) ((x21103.Units).toNat) 0 l21083).bind (fun l23974 =>
  some l23974)

/-- fishplate/fleet.Turns -/
noncomputable def mFleetTurns (l4 : (List FleetTask)) (x5 : Int) : Option (Int × (List (List Int))) :=
  (mFleetCheckTurn l4 x5).bind fun x12707 =>
  if x12707 ≠ 0 then (
  some (x12707, []))
  else (
  (mFleetOrder l4).bind fun l12710 =>
  (forS (mFleetTurns_L12718 l4 x5 l12710) l12710.length 0 ([] : (List (List Int)))).bind (fun l21083 =>
  some (0, l21083)))

/-- fishplate/fishtop.awakeFleet -/
noncomputable def mFishtopAwakeFleet : Option (Bool) :=
  (mFleetTurns [(⟨0, 0, 0, 0, 0, 0⟩ : FleetTask)] (-1)).bind (unc2 fun x31 _ =>
  some (decide (x31 ≠ 0)))

noncomputable def mFishref2NumbersIn_L760 (x729 : ApiTrain) (k826 : Nat) : ((List (List Int))) → Option ((List (List Int))) := fun l825 =>
  (idx x729.Stops (k826 : Int)).bind fun x829 =>
  (room 24 (l825.length + 1)).bind fun _ =>
  some (l825 ++ [[x829.Station, x829.Track, x829.Arr, x829.Dep]])

noncomputable def mFishref2NumbersIn_L443 (s1 : ApiDay) (k726 : Nat) : ((List (List Int))) → Option ((List (List Int))) := fun l725 =>
  (idx s1.Trains (k726 : Int)).bind fun x729 =>
  (room 24 (l725.length + 1)).bind fun _ =>
  (forS (mFishref2NumbersIn_L760 x729) x729.Stops.length 0 (l725 ++ [[x729.No, x729.Stock]])).bind (fun l825 =>
  (room 24 (l825.length + x729.Legs.length)).bind fun _ =>
  some (l825 ++ x729.Legs))

/-- fishplate/fishref2.numbersIn -/
noncomputable def mFishref2NumbersIn (s1 : ApiDay) : Option ((List (List Int))) :=
  (forS (mFishref2NumbersIn_L443 s1) s1.Trains.length 0 ([] : (List (List Int)))).bind (fun l725 =>
  (room 24 (l725.length + s1.Turns.length)).bind fun _ =>
  some (l725 ++ s1.Turns))

/-- fishplate/fishref2.within -/
noncomputable def mFishref2Within (x1 : Int) (x2 : Int) (x3 : Int) : Option (Bool) :=
  (if x2 ≤ x1 then (
  some (decide (x1 ≤ x3)))
  else (
  some false)).bind (fun x14 =>
  some x14)

noncomputable def mFishref2TextFault_L587 (x519 : ApiTrain) (k605 : Nat) : (Unit) → Option ((Unit) ⊕ ((Unit) ⊕ (Int))) := fun _ =>
  (idx x519.Legs (k605 : Int)).bind fun x609 =>
  if 4 < (x609.length : Int) then (
  some (.inr (.inr 4)))
  else (
  some (.inl ()))

noncomputable def mFishref2TextFault_L546 (x519 : ApiTrain) (k564 : Nat) : (Unit) → Option ((Unit) ⊕ ((Unit) ⊕ (Int))) := fun _ =>
  (idx x519.Legs (k564 : Int)).bind fun x568 =>
  if (x568.length : Int) = 0 then (
  some (.inr (.inr 1)))
  else (
  some (.inl ()))

noncomputable def mFishref2TextFault_L757 (x738 : (List Int)) (k774 : Nat) : (Unit) → Option ((Unit) ⊕ ((Unit) ⊕ (Int))) := fun _ =>
  (idx x738 (k774 : Int)).bind fun x778 =>
  (mFishref2Within x778 0 999999).bind fun x788 =>
  if x788 = true then (
  some (.inl ()))
  else (
  some (.inr (.inr 2)))

noncomputable def mFishref2TextFault_L676 (l668 : (List (List Int))) (k734 : Nat) : (Unit) → Option ((Unit) ⊕ (Int)) := fun _ =>
  (idx l668 (k734 : Int)).bind fun x738 =>
  (forM (mFishref2TextFault_L757 x738) x738.length 0 ()).bind fun t => Sum.elim (fun _ =>
  some (.inl ())) (fun q => some q) t

noncomputable def mFishref2TextFault_L627 (s1 : ApiDay) (k646 : Nat) : (Unit) → Option ((Unit) ⊕ (Int)) := fun _ =>
  (idx s1.Turns (k646 : Int)).bind fun x650 =>
  if (x650.length : Int) = 0 then (
  some (.inr 1))
  else (
  if 12 < (x650.length : Int) then (
  some (.inr 4))
  else (
  some (.inl ())))

noncomputable def mFishref2TextFault_L410 (s1 : ApiDay) (k515 : Nat) : (Unit) → Option ((Unit) ⊕ (Int)) := fun _ =>
  (idx s1.Trains (k515 : Int)).bind fun x519 =>
  (if (x519.Stops.length : Int) = 0 then (
  some true)
  else (
  (chk ((x519.Stops.length : Int) - 1)).bind fun _ =>
  some (decide ((x519.Legs.length : Int) ≠ ((x519.Stops.length : Int) - 1))))).bind (fun x540 =>
  if x540 = true then (
  some (.inr 1))
  else (
  (forM (mFishref2TextFault_L546 x519) x519.Legs.length 0 ()).bind fun t => Sum.elim (fun _ =>
  if 8 < (x519.Stops.length : Int) then (
  some (.inr 4))
  else (
  (forM (mFishref2TextFault_L587 x519) x519.Legs.length 0 ()).bind fun t => Sum.elim (fun _ =>
  some (.inl ())) (fun q => some q) t)) (fun q => some q) t))

/-- fishplate/fishref2.TextFault -/
noncomputable def mFishref2TextFault (s1 : ApiDay) : Option (Int) :=
  (if 12 < (s1.Trains.length : Int) then (
  some true)
  else (
  some (decide (8 < (s1.Turns.length : Int))))).bind (fun x406 =>
  if x406 = true then (
  some 4)
  else (
  (forM (mFishref2TextFault_L410 s1) s1.Trains.length 0 ()).bind fun t => Sum.elim (fun _ =>
  (forM (mFishref2TextFault_L627 s1) s1.Turns.length 0 ()).bind fun t => Sum.elim (fun _ =>
  (mFishref2NumbersIn s1).bind fun l668 =>
  (forM (mFishref2TextFault_L676 l668) l668.length 0 ()).bind fun t => Sum.elim (fun _ =>
  some 0) (fun q => some q) t) (fun q => some q) t) (fun q => some q) t))

noncomputable def mFishref2GuideFault_L931 (x846 : ApiTrain) (k1024 : Nat) : (Unit) → Option ((Unit) ⊕ ((Unit) ⊕ (Int))) := fun _ =>
  (idx x846.Stops (k1024 : Int)).bind fun x1028 =>
  ((mFishref2Within x1028.Station 0 11).bind fun x1051 =>
  if x1051 = true then (
  (mFishref2Within x1028.Arr 0 28800).bind fun x1054 =>
  if x1054 = true then (
  (mFishref2Within x1028.Dep 0 28800).bind fun x1057 =>
  some (!x1057))
  else (
  some true))
  else (
  some true)).bind (fun x1049 =>
  if x1049 = true then (
  some (.inr (.inr 2)))
  else (
  (if x1028.Dep < x1028.Arr then (
  some true)
  else (
  if 0 < (k1024 : Int) then (
  (chk ((k1024 : Int) - 1)).bind fun _ =>
  (idx x846.Stops ((k1024 : Int) - 1)).bind fun x1108 =>
  some (decide (x1028.Arr ≤ x1108.Dep)))
  else (
  some false))).bind (fun x1090 =>
  if x1090 = true then (
  some (.inr (.inr 5)))
  else (
  some (.inl ())))))

noncomputable def mFishref2GuideFault_L882 (l867 : (List ApiTrain)) (x846 : ApiTrain) (k904 : Nat) : (Unit) → Option ((Unit) ⊕ ((Unit) ⊕ (Int))) := fun _ =>
  (idx l867 (k904 : Int)).bind fun x908 =>
  if x908.No = x846.No then (
  some (.inr (.inr 6)))
  else (
  some (.inl ()))

noncomputable def mFishref2GuideFault_L570 (s1 : ApiDay) (k842 : Nat) : (Unit) → Option ((Unit) ⊕ (Int)) := fun _ =>
  (idx s1.Trains (k842 : Int)).bind fun x846 =>
  (mFishref2Within x846.No 1 9999).bind fun x863 =>
  if x863 = true then (
  (cutS s1.Trains 0 (k842 : Int)).bind fun l867 =>
  (forM (mFishref2GuideFault_L882 l867 x846) l867.length 0 ()).bind fun t => Sum.elim (fun _ =>
  if (x846.Stops.length : Int) < 2 then (
  some (.inr 1))
  else (
  (forM (mFishref2GuideFault_L931 x846) x846.Stops.length 0 ()).bind fun t => Sum.elim (fun _ =>
  some (.inl ())) (fun q => some q) t)) (fun q => some q) t)
  else (
  some (.inr 2))

/-- fishplate/fishref2.GuideFault -/
noncomputable def mFishref2GuideFault (s1 : ApiDay) : Option (Int) :=
  (mFishref2TextFault s1).bind fun x567 =>
  if x567 ≠ 0 then (
  some x567)
  else (
  (forM (mFishref2GuideFault_L570 s1) s1.Trains.length 0 ()).bind fun t => Sum.elim (fun _ =>
  some 0) (fun q => some q) t)

noncomputable def mFleetCheckLimits_L41 (s1 : FleetLimits) (k56 : Nat) : (Unit) → Option ((Unit) ⊕ (Int)) := fun _ =>
  (idx [s1.Change, s1.Long, s1.Work, s1.After, s1.Break, s1.Rest] (k56 : Int)).bind fun x60 =>
  (mFleetWithin x60 0 86400).bind fun x69 =>
  if x69 = true then (
  some (.inl ()))
  else (
  some (.inr 2))

/-- fishplate/fleet.CheckLimits -/
noncomputable def mFleetCheckLimits (s1 : FleetLimits) : Option (Int) :=
  (forM (mFleetCheckLimits_L41 s1) 6 0 ()).bind fun t => Sum.elim (fun _ =>
  (mFleetWithin s1.Row 1 7).bind fun x74 =>
  if x74 = true then (
  some 0)
  else (
  some 2)) (fun q => some q) t

/-- fishplate/fleet.checkTasks -/
noncomputable def mFleetCheckTasks_2 (l4 : (List FleetTask)) (s5 : FleetLimits) : Option (Int) :=
  (mFleetCheckTasks l4).bind fun x14 =>
  if x14 ≠ 0 then (
  some x14)
  else (
  (mFleetCheckLimits s5).bind fun x17 =>
  some x17)

noncomputable def mSlicesIndex_L39 (l4 : (List Bool)) (x5 : Bool) (k54 : Nat) : (Unit) → Option ((Unit) ⊕ (Int)) := fun _ =>
  (idx l4 (k54 : Int)).bind fun x58 =>
  if (decide (x5 = x58)) = true then (
  some (.inr (k54 : Int)))
  else (
  some (.inl ()))

/-- slices.Index[[]bool,bool] -/
noncomputable def mSlicesIndex (l4 : (List Bool)) (x5 : Bool) : Option (Int) :=
  (forM (mSlicesIndex_L39 l4 x5) l4.length 0 ()).bind fun t => Sum.elim (fun _ =>
  some (-1)) (fun q => some q) t

/-- slices.Contains[[]bool,bool] -/
noncomputable def mSlicesContains (l4 : (List Bool)) (x5 : Bool) : Option (Bool) :=
  (mSlicesIndex l4 x5).bind fun x9 =>
  some (decide (0 ≤ x9))

/-- slices.Clone[[]int,int] -/
noncomputable def mSlicesClone (l4 : (List Int)) : Option ((List Int)) :=
  (room 8 l4.length).bind fun _ => some l4

/-- fishplate/fleet.judge-1 -/
noncomputable def mFleetJudge_1 (x4 : Int) (x5 : Int) (_x6 : Int) (_x7 : Int) (_x8 : Int) (x9 : Int) (_x10 : Int) (_x11 : Int) (_x12 : Int) (x13 : Int) : Option (Int) :=
  (chk (x4 - x5)).bind fun _ =>
  if x9 < (x4 - x5) then (
  some 4)
  else (
  some x13)

noncomputable def mFleetJudge_L603 (l4 : (List FleetTask)) (l8 : (List Int)) (s9 : FleetLimits) (k735 : Nat) : (Int × Int × Int) → Option ((Int × Int × Int) ⊕ (Int)) := unc3 fun x732 x733 x734 =>
  (idx l8 (k735 : Int)).bind fun x739 =>
  (idx l4 x739).bind fun x749 =>
  (chk (x749.Arr - x749.Dep)).bind fun _ =>
  (chk (x732 + (x749.Arr - x749.Dep))).bind fun _ =>
  if (k735 : Int) = 0 then (
  some (.inl (x732 + (x749.Arr - x749.Dep), x733, x734)))
  else (
  (chk ((k735 : Int) - 1)).bind fun _ =>
  (idx l8 ((k735 : Int) - 1)).bind fun x764 =>
  (idx l4 x764).bind fun x774 =>
  (if x749.From ≠ x774.To then (
  some true)
  else (
  (chk (x774.Arr + s9.Change)).bind fun _ =>
  some (decide (x749.Dep < (x774.Arr + s9.Change))))).bind (fun x789 =>
  if x789 = true then (
  some (.inr 1))
  else (
  (chk (x749.Dep - x774.Arr)).bind fun _ =>
  if s9.Break ≤ (x749.Dep - x774.Arr) then (
  (mFleetJudge_1 x774.Arr x734 s9.Change s9.Long s9.Work s9.After s9.Break s9.Rest s9.Row x733).bind fun x797 =>
  some (.inl (x732 + (x749.Arr - x749.Dep), x797, x749.Dep)))
  else (
  some (.inl (x732 + (x749.Arr - x749.Dep), x733, x734))))))

/-- fishplate/fleet.judge -/
noncomputable def mFleetJudge (l4 : (List FleetTask)) (l8 : (List Int)) (s9 : FleetLimits) : Option (Int) :=
  ((idx l8 0).bind fun x558 =>
  (idx l4 x558).bind fun x568 =>
  (chk ((l8.length : Int) - 1)).bind fun _ =>
  (idx l8 ((l8.length : Int) - 1)).bind fun x579 =>
  (idx l4 x579).bind fun x589 =>
  some (x568.From, x568.To, x568.Dep, x568.Arr, x568.Km, x568.Units, x589.From, x589.To, x589.Dep, x589.Arr, x589.Km, x589.Units)).bind (unc12 fun x502 _ x504 _ _ _ _ x509 _ x511 _ _ =>
  (forM (mFleetJudge_L603 l4 l8 s9) l8.length 0 (0, 0, x504)).bind fun t => Sum.elim (unc3 fun x732 x733 x734 =>
  (mFleetJudge_1 x511 x734 s9.Change s9.Long s9.Work s9.After s9.Break s9.Rest s9.Row x733).bind fun x802 =>
  (chk (x511 - x504)).bind fun _ =>
  if s9.Long < (x511 - x504) then (
  some 2)
  else (
  if s9.Work < x732 then (
  some 3)
  else (
  if 0 < x802 then (
  some x802)
  else (
  if x509 ≠ x502 then (
  some 5)
  else (
  some 0))))) (fun q => some q) t)

/-- (*fishplate/fleet.divider).take -/
noncomputable def mFleetDividerTake (rcmFleetDividerDivide : (Int) → (Int) → ((List Int)) → ((List FleetTask)) → (Int) → (Int) → (Int) → (Int) → (Int) → (Int) → (Int) → ((List Bool)) → ((List (List Int))) → Option (Bool × (List Bool) × (List (List Int)))) (x12 : Int) (x13 : Int) (l17 : (List Int)) (x19 : Int) (l23 : (List FleetTask)) (x24 : Int) (x25 : Int) (x26 : Int) (x27 : Int) (x28 : Int) (x29 : Int) (x30 : Int) (l31 : (List Bool)) (l32 : (List (List Int))) : Option (Bool × (List Bool) × (List (List Int))) :=
  (idx l31 x19).bind fun x522 =>
  if x522 = true then (
  some (false, l31, l32))
  else (
  (if 0 < (l17.length : Int) then (
  ((chk ((l17.length : Int) - 1)).bind fun _ =>
  (idx l17 ((l17.length : Int) - 1)).bind fun x813 =>
  (idx l23 x813).bind fun x823 =>
  some (x823.From, x823.To, x823.Dep, x823.Arr, x823.Km, x823.Units)).bind (unc6 fun _ x784 _ x786 _ _ =>
  ((idx l23 x19).bind fun x904 =>
  if x904.From ≠ x784 then (
  some true)
  else (
  (idx l23 x19).bind fun x915 =>
  (chk (x786 + x24)).bind fun _ =>
  some (decide (x915.Dep < (x786 + x24))))).bind (fun x880 =>
  if x880 = true then (
  some (.inr (false, l31, l32)))
  else (
  some (.inl ())))))
  else (
  some (.inl ()))).bind fun t => Sum.elim (fun _ =>
  (idx l31 x19).bind fun _ =>
  (mSlicesClone l17).bind fun l949 =>
  (room 8 (l949.length + 1)).bind fun _ =>
  (rcmFleetDividerDivide x12 x13 (l949 ++ [x19]) l23 x24 x25 x26 x27 x28 x29 x30 (put l31 x19 true) l32).bind (unc3 fun x968 l969 l970 =>
  if x968 = true then (
  some (true, l969, l970))
  else (
  (idx l969 x19).bind fun _ =>
  some (false, put l969 x19 false, l970)))) (fun r1000 => some r1000) t)

noncomputable def mFleetDividerDivide_L952 (l22 : (List FleetTask)) (x12 : Int) (x13 : Int) (x23 : Int) (x24 : Int) (x25 : Int) (x26 : Int) (x27 : Int) (x28 : Int) (x29 : Int) (rcmFleetDividerDivide : (Int) → (Int) → ((List Int)) → ((List FleetTask)) → (Int) → (Int) → (Int) → (Int) → (Int) → (Int) → (Int) → ((List Bool)) → ((List (List Int))) → Option (Bool × (List Bool) × (List (List Int)))) : (Int × (List Bool) × (List (List Int))) → Option ((Int × (List Bool) × (List (List Int))) ⊕ (((List Bool) × (List (List Int))) ⊕ (Bool × (List Bool) × (List (List Int))))) := unc3 fun x1007 l1008 l1010 =>
  if x1007 < (l22.length : Int) then (
  (mFleetDividerTake rcmFleetDividerDivide x12 x13 [] x1007 l22 x23 x24 x25 x26 x27 x28 x29 l1008 l1010).bind (unc3 fun x1012 l1013 l1014 =>
  if x1012 = true then (
  some (.inr (.inr (true, l1013, l1014))))
  else (
  (chk (x1007 + 1)).bind fun _ =>
  some (.inl (x1007 + 1, l1013, l1014)))))
  else (
  some (.inr (.inl (l1008, l1010))))

noncomputable def mFleetDividerDivide_L1175 (l17 : (List Int)) (l22 : (List FleetTask)) (x12 : Int) (x13 : Int) (x23 : Int) (x24 : Int) (x25 : Int) (x26 : Int) (x27 : Int) (x28 : Int) (x29 : Int) (rcmFleetDividerDivide : (Int) → (Int) → ((List Int)) → ((List FleetTask)) → (Int) → (Int) → (Int) → (Int) → (Int) → (Int) → (Int) → ((List Bool)) → ((List (List Int))) → Option (Bool × (List Bool) × (List (List Int)))) (k1229 : Nat) : ((List Bool) × (List (List Int))) → Option (((List Bool) × (List (List Int))) ⊕ (Bool × (List Bool) × (List (List Int)))) := unc2 fun l1226 l1228 =>
  (mFleetDividerTake rcmFleetDividerDivide x12 x13 l17 (k1229 : Int) l22 x23 x24 x25 x26 x27 x28 x29 l1226 l1228).bind (unc3 fun x1233 l1234 l1235 =>
  if x1233 = true then (
  some (.inr (true, l1234, l1235)))
  else (
  some (.inl (l1234, l1235))))

/-- (*fishplate/fleet.divider).divide -/
noncomputable def mFleetDividerDivide : Nat → (Int) → (Int) → ((List Int)) → ((List FleetTask)) → (Int) → (Int) → (Int) → (Int) → (Int) → (Int) → (Int) → ((List Bool)) → ((List (List Int))) → Option (Bool × (List Bool) × (List (List Int)))
  | 0 => fun _ _ _ _ _ _ _ _ _ _ _ _ _ => none
  | N + 1 => fun x12 x13 l17 l22 x23 x24 x25 x26 x27 x28 x29 l30 l31 =>
  if l17.isEmpty = true then (
  (mSlicesContains l30 false).bind fun x856 =>
  if x856 = true then (
  if x12 = 0 then (
  some (false, l30, l31))
  else (
  ((chk (x13 + 1)).bind fun _ =>
  loopM (mFleetDividerDivide_L952 l22 x12 x13 x23 x24 x25 x26 x27 x28 x29 (mFleetDividerDivide N)) (x13 + 1, l30, l31)).bind fun t => Sum.elim (unc2 fun l946 l948 =>
  some (false, l946, l948)) (fun r1029 => some r1029) t))
  else (
  some (decide (x12 = 0), l30, l31)))
  else (
  ((mFleetJudge l22 l17 (⟨x23, x24, x25, x26, x27, x28, x29⟩ : FleetLimits)).bind fun x1111 =>
  if x1111 = 0 then (
  (room 24 (l31.length + 1)).bind fun _ =>
  (chk (x12 - 1)).bind fun _ =>
  (idx l17 0).bind fun x1121 =>
  ((mFleetDividerDivide N) (x12 - 1) x1121 [] l22 x23 x24 x25 x26 x27 x28 x29 l30 (l31 ++ [l17])).bind (unc3 fun x1131 l1132 l1133 =>
  if x1131 = true then (
  some (.inr (true, l1132, l1133)))
  else (
  (chk ((l1133.length : Int) - 1)).bind fun _ =>
  (cutS l1133 0 ((l1133.length : Int) - 1)).bind fun l1161 =>
  some (.inl (l1132, l1161)))))
  else (
  some (.inl (l30, l31)))).bind fun t => Sum.elim (unc2 fun l1104 l1106 =>
  (forM (mFleetDividerDivide_L1175 l17 l22 x12 x13 x23 x24 x25 x26 x27 x28 x29 (mFleetDividerDivide N)) l22.length 0 (l1104, l1106)).bind fun t => Sum.elim (unc2 fun l1226 l1228 =>
  some (false, l1226, l1228)) (fun q => some q) t) (fun r1249 => some r1249) t)

noncomputable def mFleetDuties_L139 (l4 : (List FleetTask)) (s5 : FleetLimits) (k195 : Nat) : (Unit) → Option ((Unit) ⊕ (Int × (List (List Int)))) := fun _ =>
  ((mkLen 1 (l4.length : Int)).bind fun m230 =>
  some (List.replicate m230 (false : Bool))).bind (fun l221 =>
  (lim (fun N => mFleetDividerDivide N (k195 : Int) (-1) [] l4 s5.Change s5.Long s5.Work s5.After s5.Break s5.Rest s5.Row l221 [])).bind (unc3 fun x237 _ l239 =>
  if x237 = true then (
  some (.inr (0, l239)))
  else (
  some (.inl ()))))

/-- fishplate/fleet.Duties -/
noncomputable def mFleetDuties (l4 : (List FleetTask)) (s5 : FleetLimits) : Option (Int × (List (List Int))) :=
  (mFleetCheckTasks_2 l4 s5).bind fun x134 =>
  if x134 ≠ 0 then (
  some (x134, []))
  else (
  if 8 < (l4.length : Int) then (
  some (4, []))
  else (
  (chk ((l4.length : Int) + 1)).bind fun _ =>
  (chk ((l4.length : Int) + 1)).bind fun _ =>
  (forM (mFleetDuties_L139 l4 s5) (((l4.length : Int) + 1).toNat) 0 ()).bind fun t => Sum.elim (fun _ =>
  some (9, [])) (fun q => some q) t))

/-- fishplate/fishtop.TopCrewed-1 -/
noncomputable def mFishtopTopCrewed_1 (x2 : Int) (l6 : (List FleetTask)) : Option (Bool) :=
  (if x2 < 0 then (
  some true)
  else (
  some (decide ((l6.length : Int) ≤ x2)))).bind (fun x17 =>
  some x17)

noncomputable def mSlicesIndexFunc_L51 (l5 : (List Int)) (l9 : (List FleetTask)) (k70 : Nat) : (Unit) → Option ((Unit) ⊕ (Int)) := fun _ =>
  (idx l5 (k70 : Int)).bind fun x74 =>
  (mFishtopTopCrewed_1 x74 l9).bind fun x84 =>
  if x84 = true then (
  some (.inr (k70 : Int)))
  else (
  some (.inl ()))

/-- slices.IndexFunc[[]int,int] -/
noncomputable def mSlicesIndexFunc (l5 : (List Int)) (l9 : (List FleetTask)) : Option (Int) :=
  (forM (mSlicesIndexFunc_L51 l5 l9) l5.length 0 ()).bind fun t => Sum.elim (fun _ =>
  some (-1)) (fun q => some q) t

/-- slices.ContainsFunc[[]int,int] -/
noncomputable def mSlicesContainsFunc (l5 : (List Int)) (l9 : (List FleetTask)) : Option (Bool) :=
  (mSlicesIndexFunc l5 l9).bind fun x15 =>
  some (decide (0 ≤ x15))

noncomputable def mFleetCheckShifts_L85 (l4 : (List FleetShift)) (k122 : Nat) : (Unit) → Option ((Unit) ⊕ (Int)) := fun _ =>
  (idx l4 (k122 : Int)).bind fun x126 =>
  ((mFleetWithin x126.Day 0 6).bind fun x149 =>
  if x149 = true then (
  (mFleetWithin x126.Start 0 28800).bind fun x152 =>
  if x152 = true then (
  (mFleetWithin x126.End 0 28800).bind fun x155 =>
  some (!x155))
  else (
  some true))
  else (
  some true)).bind (fun x147 =>
  if x147 = true then (
  some (.inr 2))
  else (
  if x126.End ≤ x126.Start then (
  some (.inr 13))
  else (
  some (.inl ()))))

/-- fishplate/fleet.CheckShifts -/
noncomputable def mFleetCheckShifts (l4 : (List FleetShift)) : Option (Int) :=
  if 8 < (l4.length : Int) then (
  some 4)
  else (
  (forM (mFleetCheckShifts_L85 l4) l4.length 0 ()).bind fun t => Sum.elim (fun _ =>
  some 0) (fun q => some q) t)

noncomputable def mFleetLoad_L181 (l4 : (List FleetShift)) (l8 : (List Int)) (k295 : Nat) : (Int) → Option (Int) := fun x294 =>
  (idx l8 (k295 : Int)).bind fun x298 =>
  (idx l4 x298).bind fun x330 =>
  (idx l4 x298).bind fun x340 =>
  (chk (x330.End - x340.Start)).bind fun _ =>
  (chk (x294 + (x330.End - x340.Start))).bind fun _ =>
  some (x294 + (x330.End - x340.Start))

/-- fishplate/fleet.load -/
noncomputable def mFleetLoad (l4 : (List FleetShift)) (l8 : (List Int)) : Option (Int) :=
  (forS (mFleetLoad_L181 l4 l8) l8.length 0 0).bind (fun x294 =>
  some x294)

noncomputable def mFleetDriverBreaks_L2422 (l4 : (List FleetShift)) (s9 : FleetLimits) (l2407 : (List Int)) (x2366 : Int) (k2684 : Nat) : (Bool) → Option (Bool) := fun x2683 =>
  (idx l2407 (k2684 : Int)).bind fun x2687 =>
  ((idx l4 x2366).bind fun x2774 =>
  (idx l4 x2687).bind fun x2784 =>
  some (x2774.Day, x2774.Start, x2774.End, x2784.Day, x2784.Start, x2784.End)).bind (unc6 fun x2745 x2746 x2747 x2748 x2749 x2750 =>
  (if x2748 < x2745 then (
  some (x2748, x2749, x2750, x2745, x2746, x2747))
  else (
  some (x2745, x2746, x2747, x2748, x2749, x2750))).bind (unc6 fun x2799 _ x2801 x2802 x2803 _ =>
  if x2683 = true then (
  some true)
  else (
  if x2799 ≠ x2802 then (
  (chk (x2802 * 86400)).bind fun _ =>
  (chk ((x2802 * 86400) + x2803)).bind fun _ =>
  (chk (x2799 * 86400)).bind fun _ =>
  (chk (((x2802 * 86400) + x2803) - (x2799 * 86400))).bind fun _ =>
  (chk ((((x2802 * 86400) + x2803) - (x2799 * 86400)) - x2801)).bind fun _ =>
  if ((((x2802 * 86400) + x2803) - (x2799 * 86400)) - x2801) < s9.Rest then (
  some true)
  else (
  some false))
  else (
  some false))))

noncomputable def mFleetDriverBreaks_L2815 (s9 : FleetLimits) (l2360 : (List Int)) (k2863 : Nat) : (Bool × Bool × Int) → Option (Bool × Bool × Int) := unc3 fun x2860 x2861 x2862 =>
  (idx l2360 (k2863 : Int)).bind fun x2866 =>
  (if x2860 = true then (
  some true)
  else (
  if 1 < x2866 then (
  some true)
  else (
  some false))).bind (fun x2879 =>
  if x2866 = 0 then (
  some (x2879, x2861, 0))
  else (
  (chk (x2862 + 1)).bind fun _ =>
  if x2861 = true then (
  some (x2879, true, x2862 + 1))
  else (
  if s9.Row < (x2862 + 1) then (
  some (x2879, true, x2862 + 1))
  else (
  some (x2879, false, x2862 + 1)))))

noncomputable def mFleetDriverBreaks_L1454 (l4 : (List FleetShift)) (l8 : (List Int)) (s9 : FleetLimits) (k2363 : Nat) : (Bool × (List Int)) → Option (Bool × (List Int)) := unc2 fun x2359 l2360 =>
  (idx l8 (k2363 : Int)).bind fun x2366 =>
  (idx l4 x2366).bind fun x2376 =>
  (idx l2360 x2376.Day).bind fun x2386 =>
  (chk (x2386 + 1)).bind fun _ =>
  (idx l2360 x2376.Day).bind fun _ =>
  (cutS l8 0 (k2363 : Int)).bind fun l2407 =>
  (forS (mFleetDriverBreaks_L2422 l4 s9 l2407 x2366) l2407.length 0 x2359).bind (fun x2683 =>
  some (x2683, put l2360 x2376.Day (x2386 + 1)))

/-- fishplate/fleet.driverBreaks -/
noncomputable def mFleetDriverBreaks (l4 : (List FleetShift)) (l8 : (List Int)) (s9 : FleetLimits) : Option (Bool × Bool × Bool) :=
  (forS (mFleetDriverBreaks_L1454 l4 l8 s9) l8.length 0 (false, [0, 0, 0, 0, 0, 0, 0])).bind (unc2 fun x2359 l2360 =>
  (forS (mFleetDriverBreaks_L2815 s9 l2360) 7 0 (false, false, 0)).bind (unc3 fun x2860 x2861 _ =>
  some (x2860, x2359, x2861)))

/-- fishplate/fleet.fits -/
noncomputable def mFleetFits (l4 : (List FleetShift)) (l8 : (List Int)) (s9 : FleetLimits) : Option (Bool) :=
  (mFleetDriverBreaks l4 l8 s9).bind (unc3 fun x25 x26 x27 =>
  (if x25 = true then (
  some false)
  else (
  if x26 = true then (
  some false)
  else (
  some (!x27)))).bind (fun x33 =>
  some x33))

noncomputable def mFleetRoster_1_2_L2317 (l21 : (List FleetShift)) (l30 : (List (List Int))) (k2365 : Nat) : (Int) → Option (Int) := fun x2364 =>
  (idx l30 (k2365 : Int)).bind fun x2368 =>
  (mFleetLoad l21 x2368).bind fun x2387 =>
  some (max x2364 x2387)

noncomputable def mFleetRoster_1_2_L2424 (l21 : (List FleetShift)) (x17 : Int) (x23 : Int) (x24 : Int) (x25 : Int) (x26 : Int) (x27 : Int) (x28 : Int) (x29 : Int) (rcmFleetRoster_1_2 : (Int) → ((List FleetShift)) → (Int) → (Int) → (Int) → (Int) → (Int) → (Int) → (Int) → (Int) → ((List (List Int))) → ((List (List Int))) → Option (Int × (List (List Int)) × (List (List Int)))) (k3156 : Nat) : (Int × (List (List Int)) × (List (List Int))) → Option (Int × (List (List Int)) × (List (List Int))) := unc3 fun x3152 l3153 l3155 =>
  (idx l3153 (k3156 : Int)).bind fun x3159 =>
  ((mSlicesClone x3159).bind fun l3315 =>
  (room 8 (l3315.length + 1)).bind fun _ =>
  (idx l3153 (k3156 : Int)).bind fun _ =>
  some (put l3153 (k3156 : Int) (l3315 ++ [x17]))).bind (fun l3269 =>
  ((idx l3269 (k3156 : Int)).bind fun x3451 =>
  (mFleetFits l21 x3451 (⟨x23, x24, x25, x26, x27, x28, x29⟩ : FleetLimits)).bind fun x3470 =>
  if x3470 = true then (
  (chk (x17 + 1)).bind fun _ =>
  (rcmFleetRoster_1_2 (x17 + 1) l21 x3152 x23 x24 x25 x26 x27 x28 x29 l3269 l3155).bind (unc3 fun x3474 l3475 l3476 =>
  some (x3474, l3475, l3476)))
  else (
  some (x3152, l3269, l3155))).bind (unc3 fun x3425 l3426 l3428 =>
  (idx l3426 (k3156 : Int)).bind fun _ =>
  some (x3425, put l3426 (k3156 : Int) x3159, l3428)))

/-- fishplate/fleet.Roster-1 -/
noncomputable def mFleetRoster_1_2 : Nat → (Int) → ((List FleetShift)) → (Int) → (Int) → (Int) → (Int) → (Int) → (Int) → (Int) → (Int) → ((List (List Int))) → ((List (List Int))) → Option (Int × (List (List Int)) × (List (List Int)))
  | 0 => fun _ _ _ _ _ _ _ _ _ _ _ _ => none
  | N + 1 => fun x17 l21 x22 x23 x24 x25 x26 x27 x28 x29 l30 l31 =>
  if x17 = (l21.length : Int) then (
  (forS (mFleetRoster_1_2_L2317 l21 l30) l30.length 0 0).bind (fun x2364 =>
  ((if x22 < 0 then (
  some true)
  else (
  some (decide (x2364 < x22)))).bind (fun x2414 =>
  if x2414 = true then (
  (room 24 l30.length).bind fun _ =>
  some (x2364, l30))
  else (
  some (x22, l31)))).bind (unc2 fun x2408 l2409 =>
  some (x2408, l30, l2409))))
  else (
  (forS (mFleetRoster_1_2_L2424 l21 x17 x23 x24 x25 x26 x27 x28 x29 (mFleetRoster_1_2 N)) l30.length 0 (x22, l30, l31)).bind (unc3 fun x3152 l3153 l3155 =>
  some (x3152, l3153, l3155)))

noncomputable def mFleetRoster_1_L2318 (l21 : (List FleetShift)) (l30 : (List (List Int))) (k2366 : Nat) : (Int) → Option (Int) := fun x2365 =>
  (idx l30 (k2366 : Int)).bind fun x2369 =>
  (mFleetLoad l21 x2369).bind fun x2388 =>
  some (max x2365 x2388)

noncomputable def mFleetRoster_1_L2425 (l21 : (List FleetShift)) (x17 : Int) (x23 : Int) (x24 : Int) (x25 : Int) (x26 : Int) (x27 : Int) (x28 : Int) (x29 : Int) (k3157 : Nat) : (Int × (List (List Int)) × (List (List Int))) → Option (Int × (List (List Int)) × (List (List Int))) := unc3 fun x3153 l3154 l3156 =>
  (idx l3154 (k3157 : Int)).bind fun x3160 =>
  ((mSlicesClone x3160).bind fun l3316 =>
  (room 8 (l3316.length + 1)).bind fun _ =>
  (idx l3154 (k3157 : Int)).bind fun _ =>
  some (put l3154 (k3157 : Int) (l3316 ++ [x17]))).bind (fun l3270 =>
  ((idx l3270 (k3157 : Int)).bind fun x3452 =>
  (mFleetFits l21 x3452 (⟨x23, x24, x25, x26, x27, x28, x29⟩ : FleetLimits)).bind fun x3471 =>
  if x3471 = true then (
  (chk (x17 + 1)).bind fun _ =>
  (lim (fun N => mFleetRoster_1_2 N (x17 + 1) l21 x3153 x23 x24 x25 x26 x27 x28 x29 l3270 l3156)).bind (unc3 fun x3475 l3476 l3477 =>
  some (x3475, l3476, l3477)))
  else (
  some (x3153, l3270, l3156))).bind (unc3 fun x3426 l3427 l3429 =>
  (idx l3427 (k3157 : Int)).bind fun _ =>
  some (x3426, put l3427 (k3157 : Int) x3160, l3429)))

/-- fishplate/fleet.Roster-1 -/
noncomputable def mFleetRoster_1 : Nat → (Int) → ((List FleetShift)) → (Int) → (Int) → (Int) → (Int) → (Int) → (Int) → (Int) → (Int) → ((List (List Int))) → ((List (List Int))) → Option (Int × (List (List Int)) × (List (List Int)))
  | 0 => fun _ _ _ _ _ _ _ _ _ _ _ _ => none
  | N + 1 => fun x17 l21 x22 x23 x24 x25 x26 x27 x28 x29 l30 l31 =>
  if x17 = (l21.length : Int) then (
  (forS (mFleetRoster_1_L2318 l21 l30) l30.length 0 0).bind (fun x2365 =>
  ((if x22 < 0 then (
  some true)
  else (
  some (decide (x2365 < x22)))).bind (fun x2415 =>
  if x2415 = true then (
  (room 24 l30.length).bind fun _ =>
  some (x2365, l30))
  else (
  some (x22, l31)))).bind (unc2 fun x2409 l2410 =>
  some (x2409, l30, l2410))))
  else (
  (forS (mFleetRoster_1_L2425 l21 x17 x23 x24 x25 x26 x27 x28 x29) l30.length 0 (x22, l30, l31)).bind (unc3 fun x3153 l3154 l3156 =>
  some (x3153, l3154, l3156)))

/-- fishplate/fleet.Roster -/
noncomputable def mFleetRoster (l4 : (List FleetShift)) (x5 : Int) (s6 : FleetLimits) : Option (Int × (List (List Int))) :=
  (mFleetCheckShifts l4).bind fun x51 =>
  if x51 ≠ 0 then (
  some (x51, []))
  else (
  (mFleetCheckLimits s6).bind fun x54 =>
  if x54 ≠ 0 then (
  some (x54, []))
  else (
  (mFleetWithin x5 1 4).bind fun x57 =>
  if x57 = true then (
  (mkLen 24 x5).bind fun m60 =>
  (lim (fun N => mFleetRoster_1 N 0 l4 (-1) s6.Change s6.Long s6.Work s6.After s6.Break s6.Rest s6.Row (List.replicate m60 (([] : List Int) : (List Int))) [])).bind (unc3 fun x70 _ l72 =>
  if x70 < 0 then (
  some (9, []))
  else (
  some (0, l72))))
  else (
  some (2, []))))

noncomputable def mFleetCheckRoster_L194 (l4 : (List FleetShift)) (x181 : (List Int)) (k212 : Nat) : (Unit) → Option ((Unit) ⊕ ((Unit) ⊕ (Int))) := fun _ =>
  (idx x181 (k212 : Int)).bind fun x216 =>
  (chk ((l4.length : Int) - 1)).bind fun _ =>
  (mFleetWithin x216 0 ((l4.length : Int) - 1)).bind fun x227 =>
  if x227 = true then (
  some (.inl ()))
  else (
  some (.inr (.inr 2)))

noncomputable def mFleetCheckRoster_L123 (l4 : (List FleetShift)) (l8 : (List (List Int))) (k177 : Nat) : (Unit) → Option ((Unit) ⊕ (Int)) := fun _ =>
  (idx l8 (k177 : Int)).bind fun x181 =>
  (forM (mFleetCheckRoster_L194 l4 x181) x181.length 0 ()).bind fun t => Sum.elim (fun _ =>
  some (.inl ())) (fun q => some q) t

/-- fishplate/fleet.checkRoster -/
noncomputable def mFleetCheckRoster (l4 : (List FleetShift)) (l8 : (List (List Int))) : Option (Int) :=
  if 4 < (l8.length : Int) then (
  some 4)
  else (
  (forM (mFleetCheckRoster_L123 l4 l8) l8.length 0 ()).bind fun t => Sum.elim (fun _ =>
  some 0) (fun q => some q) t)

/-- fishplate/fleet.judgeRoster-1 -/
noncomputable def mFleetJudgeRoster_1 (x1 : Int) : Option (Bool) :=
  some (decide (x1 ≠ 1))

noncomputable def mSlicesIndexFunc_2_L42 (l4 : (List Int)) (k59 : Nat) : (Unit) → Option ((Unit) ⊕ (Int)) := fun _ =>
  (idx l4 (k59 : Int)).bind fun x63 =>
  (mFleetJudgeRoster_1 x63).bind fun x73 =>
  if x73 = true then (
  some (.inr (k59 : Int)))
  else (
  some (.inl ()))

/-- slices.IndexFunc[[]int,int] -/
noncomputable def mSlicesIndexFunc_2 (l4 : (List Int)) : Option (Int) :=
  (forM (mSlicesIndexFunc_2_L42 l4) l4.length 0 ()).bind fun t => Sum.elim (fun _ =>
  some (-1)) (fun q => some q) t

/-- slices.ContainsFunc[[]int,int] -/
noncomputable def mSlicesContainsFunc_2 (l4 : (List Int)) : Option (Bool) :=
  (mSlicesIndexFunc_2 l4).bind fun x8 =>
  some (decide (0 ≤ x8))

noncomputable def mFleetJudgeRoster_2_L1027 (x1014 : (List Int)) (k1131 : Nat) : ((List Int)) → Option ((List Int)) := fun l1129 =>
  (idx x1014 (k1131 : Int)).bind fun x1134 =>
  (idx l1129 x1134).bind fun x1144 =>
  (chk (x1144 + 1)).bind fun _ =>
  (idx l1129 x1134).bind fun _ =>
  some (put l1129 x1134 (x1144 + 1))

noncomputable def mFleetJudgeRoster_2_L620 (l4 : (List FleetShift)) (l8 : (List (List Int))) (s9 : FleetLimits) (k1011 : Nat) : (Bool × Bool × Bool × (List Int)) → Option (Bool × Bool × Bool × (List Int)) := unc4 fun x1006 x1007 x1008 l1009 =>
  (idx l8 (k1011 : Int)).bind fun x1014 =>
  (forS (mFleetJudgeRoster_2_L1027 x1014) x1014.length 0 l1009).bind (fun l1129 =>
  (mFleetDriverBreaks l4 x1014 s9).bind (unc3 fun x1179 x1180 x1181 =>
  if x1006 = true then (
  if x1007 = true then (
  if x1008 = true then (
  some (true, true, true, l1129))
  else (
  if x1181 = true then (
  some (true, true, true, l1129))
  else (
  some (true, true, false, l1129))))
  else (
  if x1008 = true then (
  if x1180 = true then (
  some (true, true, true, l1129))
  else (
  some (true, false, true, l1129)))
  else (
  if x1180 = true then (
  if x1181 = true then (
  some (true, true, true, l1129))
  else (
  some (true, true, false, l1129)))
  else (
  if x1181 = true then (
  some (true, false, true, l1129))
  else (
  some (true, false, false, l1129))))))
  else (
  if x1007 = true then (
  if x1008 = true then (
  if x1179 = true then (
  some (true, true, true, l1129))
  else (
  some (false, true, true, l1129)))
  else (
  if x1179 = true then (
  if x1181 = true then (
  some (true, true, true, l1129))
  else (
  some (true, true, false, l1129)))
  else (
  if x1181 = true then (
  some (false, true, true, l1129))
  else (
  some (false, true, false, l1129)))))
  else (
  if x1008 = true then (
  if x1179 = true then (
  if x1180 = true then (
  some (true, true, true, l1129))
  else (
  some (true, false, true, l1129)))
  else (
  if x1180 = true then (
  some (false, true, true, l1129))
  else (
  some (false, false, true, l1129))))
  else (
  if x1179 = true then (
  if x1180 = true then (
  if x1181 = true then (
  some (true, true, true, l1129))
  else (
  some (true, true, false, l1129)))
  else (
  if x1181 = true then (
  some (true, false, true, l1129))
  else (
  some (true, false, false, l1129))))
  else (
  if x1180 = true then (
  if x1181 = true then (
  some (false, true, true, l1129))
  else (
  some (false, true, false, l1129)))
  else (
  if x1181 = true then (
  some (false, false, true, l1129))
  else (
  some (false, false, false, l1129)))))))))

/-- fishplate/fleet.judgeRoster -/
noncomputable def mFleetJudgeRoster_2 (l4 : (List FleetShift)) (l8 : (List (List Int))) (s9 : FleetLimits) : Option (Int) :=
  (mkLen 8 (l4.length : Int)).bind fun m614 =>
  (forS (mFleetJudgeRoster_2_L620 l4 l8 s9) l8.length 0 (false, false, false, List.replicate m614 (0 : Int))).bind (unc4 fun x1006 x1007 x1008 l1009 =>
  (mSlicesContainsFunc_2 l1009).bind fun x1209 =>
  if x1209 = true then (
  some 1)
  else (
  if x1006 = true then (
  some 2)
  else (
  if x1007 = true then (
  some 3)
  else (
  if x1008 = true then (
  some 4)
  else (
  some 0)))))

/-- fishplate/fleet.JudgeRoster -/
noncomputable def mFleetJudgeRoster (l4 : (List FleetShift)) (l8 : (List (List Int))) (s9 : FleetLimits) : Option (Int × Int) :=
  (mFleetCheckShifts l4).bind fun x25 =>
  if x25 ≠ 0 then (
  some (0, x25))
  else (
  (mFleetCheckLimits s9).bind fun x28 =>
  if x28 ≠ 0 then (
  some (0, x28))
  else (
  (mFleetCheckRoster l4 l8).bind fun x31 =>
  if x31 ≠ 0 then (
  some (0, x31))
  else (
  (mFleetJudgeRoster_2 l4 l8 s9).bind fun x34 =>
  some (x34, 0))))

/-- math/bits.Len64 -/
noncomputable def mBitsLen64 (x1 : Int) : Option (Int) :=
  (if 4294967296 ≤ x1 then (
  (shN 32).bind fun _ =>
  some (shrI .u64 x1 32, 32))
  else (
  some (x1, 0))).bind (unc2 fun x41 x42 =>
  (if 65536 ≤ x41 then (
  (shN 16).bind fun _ =>
  (chk (x42 + 16)).bind fun _ =>
  some (shrI .u64 x41 16, x42 + 16))
  else (
  some (x41, x42))).bind (unc2 fun x51 x52 =>
  (if 256 ≤ x51 then (
  (shN 8).bind fun _ =>
  (chk (x52 + 8)).bind fun _ =>
  some (shrI .u64 x51 8, x52 + 8))
  else (
  some (x51, x52))).bind (unc2 fun x62 x63 =>
  (sIdx (ByteArray.mk (List.toArray (List.append (List.append ([0, 1, 2, 2, 3, 3, 3, 3, 4, 4, 4, 4, 4, 4, 4, 4, 5, 5, 5, 5, 5, 5, 5, 5, 5, 5, 5, 5, 5, 5, 5, 5, 6, 6, 6, 6, 6, 6, 6, 6, 6, 6, 6, 6, 6, 6, 6, 6, 6, 6, 6, 6, 6, 6, 6, 6, 6, 6, 6, 6, 6, 6, 6, 6] : List UInt8) ([7, 7, 7, 7, 7, 7, 7, 7, 7, 7, 7, 7, 7, 7, 7, 7, 7, 7, 7, 7, 7, 7, 7, 7, 7, 7, 7, 7, 7, 7, 7, 7, 7, 7, 7, 7, 7, 7, 7, 7, 7, 7, 7, 7, 7, 7, 7, 7, 7, 7, 7, 7, 7, 7, 7, 7, 7, 7, 7, 7, 7, 7, 7, 7] : List UInt8)) (List.append ([8, 8, 8, 8, 8, 8, 8, 8, 8, 8, 8, 8, 8, 8, 8, 8, 8, 8, 8, 8, 8, 8, 8, 8, 8, 8, 8, 8, 8, 8, 8, 8, 8, 8, 8, 8, 8, 8, 8, 8, 8, 8, 8, 8, 8, 8, 8, 8, 8, 8, 8, 8, 8, 8, 8, 8, 8, 8, 8, 8, 8, 8, 8, 8] : List UInt8) ([8, 8, 8, 8, 8, 8, 8, 8, 8, 8, 8, 8, 8, 8, 8, 8, 8, 8, 8, 8, 8, 8, 8, 8, 8, 8, 8, 8, 8, 8, 8, 8, 8, 8, 8, 8, 8, 8, 8, 8, 8, 8, 8, 8, 8, 8, 8, 8, 8, 8, 8, 8, 8, 8, 8, 8, 8, 8, 8, 8, 8, 8, 8, 8] : List UInt8))))) (IntKind.wrap .u8 x62)).bind fun x68 =>
  (chk (x63 + (IntKind.wrap .i64 x68))).bind fun _ =>
  some (x63 + (IntKind.wrap .i64 x68)))))

/-- math/bits.Len -/
noncomputable def mBitsLen (x1 : Int) : Option (Int) :=
  (mBitsLen64 x1).bind fun x5 =>
  some x5

/-- cmp.Less[int] -/
noncomputable def mCmpLess (x1 : Int) (x2 : Int) : Option (Bool) :=
  ((mCmpIsNaN x1).bind fun x30 =>
  if x30 = true then (
  (mCmpIsNaN x2).bind fun x33 =>
  if x33 = true then (
  some (decide (x1 < x2)))
  else (
  some true))
  else (
  some (decide (x1 < x2)))).bind (fun x28 =>
  some x28)

noncomputable def mSlicesInsertionSortOrdered_L9840 (x6 : Int) : (Int × (List Int)) → Option ((Int × (List Int)) ⊕ ((List Int))) := unc2 fun x10432 l10433 =>
  (if x6 < x10432 then (
  (idx l10433 x10432).bind fun x10548 =>
  (chk (x10432 - 1)).bind fun _ =>
  (idx l10433 (x10432 - 1)).bind fun x10565 =>
  (mCmpLess x10548 x10565).bind fun x10581 =>
  some x10581)
  else (
  some false)).bind (fun x10509 =>
  if x10509 = true then (
  (chk (x10432 - 1)).bind fun _ =>
  (chk (x10432 - 1)).bind fun _ =>
  (idx l10433 (x10432 - 1)).bind fun x10656 =>
  (idx l10433 x10432).bind fun x10672 =>
  (idx l10433 x10432).bind fun _ =>
  (idx (put l10433 x10432 x10656) (x10432 - 1)).bind fun _ =>
  (chk (x10432 - 1)).bind fun _ =>
  some (.inl (x10432 - 1, put (put l10433 x10432 x10656) (x10432 - 1) x10672)))
  else (
  some (.inr l10433)))

noncomputable def mSlicesInsertionSortOrdered_L5371 (x6 : Int) (x7 : Int) : (Int × (List Int)) → Option ((Int × (List Int)) ⊕ ((List Int))) := unc2 fun x8943 l8944 =>
  if x8943 < x7 then (
  (loopM (mSlicesInsertionSortOrdered_L9840 x6) (x8943, l8944)).bind (fun l9837 =>
  (chk (x8943 + 1)).bind fun _ =>
  some (.inl (x8943 + 1, l9837))))
  else (
  some (.inr l8944))

/-- slices.insertionSortOrdered[int] -/
noncomputable def mSlicesInsertionSortOrdered (x6 : Int) (x7 : Int) (l8 : (List Int)) : Option ((List Int)) :=
  (chk (x6 + 1)).bind fun _ =>
  loopM (mSlicesInsertionSortOrdered_L5371 x6 x7) (x6 + 1, l8)

noncomputable def mSlicesSiftDownOrdered_L2130 (x7 : Int) (x8 : Int) : (Int × (List Int)) → Option ((Int × (List Int)) ⊕ ((List Int))) := unc2 fun x3542 l3543 =>
  (chk (2 * x3542)).bind fun _ =>
  (chk ((2 * x3542) + 1)).bind fun _ =>
  if x7 ≤ ((2 * x3542) + 1) then (
  some (.inr l3543))
  else (
  (((chk (((2 * x3542) + 1) + 1)).bind fun _ =>
  if (((2 * x3542) + 1) + 1) < x7 then (
  (chk (x8 + ((2 * x3542) + 1))).bind fun _ =>
  (idx l3543 (x8 + ((2 * x3542) + 1))).bind fun x3838 =>
  (chk (x8 + ((2 * x3542) + 1))).bind fun _ =>
  (chk ((x8 + ((2 * x3542) + 1)) + 1)).bind fun _ =>
  (idx l3543 ((x8 + ((2 * x3542) + 1)) + 1)).bind fun x3856 =>
  (mCmpLess x3838 x3856).bind fun x3872 =>
  some x3872)
  else (
  some false)).bind (fun x3794 =>
  if x3794 = true then (
  (chk (((2 * x3542) + 1) + 1)).bind fun _ =>
  some (((2 * x3542) + 1) + 1))
  else (
  some ((2 * x3542) + 1)))).bind (fun x3712 =>
  (chk (x8 + x3542)).bind fun _ =>
  (idx l3543 (x8 + x3542)).bind fun x3913 =>
  (chk (x8 + x3712)).bind fun _ =>
  (idx l3543 (x8 + x3712)).bind fun x3930 =>
  (mCmpLess x3913 x3930).bind fun x3946 =>
  if x3946 = true then (
  ((chk (x8 + x3542)).bind fun _ =>
  (chk (x8 + x3712)).bind fun _ =>
  (chk (x8 + x3712)).bind fun _ =>
  (idx l3543 (x8 + x3712)).bind fun x4177 =>
  (chk (x8 + x3542)).bind fun _ =>
  (idx l3543 (x8 + x3542)).bind fun x4194 =>
  (idx l3543 (x8 + x3542)).bind fun _ =>
  (idx (put l3543 (x8 + x3542) x4177) (x8 + x3712)).bind fun _ =>
  some (put (put l3543 (x8 + x3542) x4177) (x8 + x3712) x4194)).bind (fun l4099 =>
  some (.inl (x3712, l4099))))
  else (
  some (.inr l3543))))

/-- slices.siftDownOrdered[int] -/
noncomputable def mSlicesSiftDownOrdered (x6 : Int) (x7 : Int) (x8 : Int) (l9 : (List Int)) : Option ((List Int)) :=
  loopM (mSlicesSiftDownOrdered_L2130 x7 x8) (x6, l9)

noncomputable def mSlicesHeapSortOrdered_L1077 (x6 : Int) (x7 : Int) : (Int × (List Int)) → Option ((Int × (List Int)) ⊕ ((List Int))) := unc2 fun x1107 l1108 =>
  if 0 ≤ x1107 then (
  (mSlicesSiftDownOrdered x1107 (x7 - x6) x6 l1108).bind fun l1111 =>
  (chk (x1107 - 1)).bind fun _ =>
  some (.inl (x1107 - 1, l1111)))
  else (
  some (.inr l1108))

noncomputable def mSlicesHeapSortOrdered_L1120 (x6 : Int) : (Int × (List Int)) → Option ((Int × (List Int)) ⊕ ((List Int))) := unc2 fun x1726 l1727 =>
  if 0 ≤ x1726 then (
  ((chk (x6 + x1726)).bind fun _ =>
  (chk (x6 + x1726)).bind fun _ =>
  (idx l1727 (x6 + x1726)).bind fun x1950 =>
  (idx l1727 x6).bind fun x1966 =>
  (idx l1727 x6).bind fun _ =>
  (idx (put l1727 x6 x1950) (x6 + x1726)).bind fun _ =>
  some (put (put l1727 x6 x1950) (x6 + x1726) x1966)).bind (fun l1875 =>
  (mSlicesSiftDownOrdered 0 x1726 x6 l1875).bind fun l2018 =>
  (chk (x1726 - 1)).bind fun _ =>
  some (.inl (x1726 - 1, l2018))))
  else (
  some (.inr l1727))

/-- slices.heapSortOrdered[int] -/
noncomputable def mSlicesHeapSortOrdered (x6 : Int) (x7 : Int) (l8 : (List Int)) : Option ((List Int)) :=
  (chk (x7 - x6)).bind fun _ =>
  ((chk ((x7 - x6) - 1)).bind fun _ =>
  (ne0 2).bind fun _ =>
  (chk (Int.tdiv ((x7 - x6) - 1) 2)).bind fun _ =>
  loopM (mSlicesHeapSortOrdered_L1077 x6 x7) (Int.tdiv ((x7 - x6) - 1) 2, l8)).bind (fun l1071 =>
  (chk ((x7 - x6) - 1)).bind fun _ =>
  loopM (mSlicesHeapSortOrdered_L1120 x6) ((x7 - x6) - 1, l1071))

/-- slices.order2Ordered[int] -/
noncomputable def mSlicesOrder2Ordered (l5 : (List Int)) (x6 : Int) (x7 : Int) (x8 : Int) : Option (Int × Int × Int) :=
  (idx l5 x7).bind fun x80 =>
  (idx l5 x6).bind fun x90 =>
  (mCmpLess x80 x90).bind fun x100 =>
  if x100 = true then (
  (chk (x8 + 1)).bind fun _ =>
  some (x7, x6, x8 + 1))
  else (
  some (x6, x7, x8))

/-- slices.medianOrdered[int] -/
noncomputable def mSlicesMedianOrdered (l5 : (List Int)) (x6 : Int) (x7 : Int) (x8 : Int) (x9 : Int) : Option (Int × Int) :=
  (mSlicesOrder2Ordered l5 x6 x7 x9).bind (unc3 fun x30 x31 x32 =>
  (mSlicesOrder2Ordered l5 x31 x8 x32).bind (unc3 fun x36 _ x38 =>
  (mSlicesOrder2Ordered l5 x30 x36 x38).bind (unc3 fun _ x43 x44 =>
  some (x43, x44))))

/-- slices.medianAdjacentOrdered[int] -/
noncomputable def mSlicesMedianAdjacentOrdered (l5 : (List Int)) (x6 : Int) (x7 : Int) : Option (Int × Int) :=
  (chk (x6 - 1)).bind fun _ =>
  (chk (x6 + 1)).bind fun _ =>
  (mSlicesMedianOrdered l5 (x6 - 1) x6 (x6 + 1) x7).bind (unc2 fun x19 x20 =>
  some (x19, x20))

/-- slices.choosePivotOrdered[int] -/
noncomputable def mSlicesChoosePivotOrdered (l4 : (List Int)) (x5 : Int) (x6 : Int) : Option (Int × Int) :=
  (chk (x6 - x5)).bind fun _ =>
  (ne0 4).bind fun _ =>
  (chk (Int.tdiv (x6 - x5) 4)).bind fun _ =>
  (chk ((Int.tdiv (x6 - x5) 4) * 1)).bind fun _ =>
  (chk (x5 + ((Int.tdiv (x6 - x5) 4) * 1))).bind fun _ =>
  (ne0 4).bind fun _ =>
  (chk (Int.tdiv (x6 - x5) 4)).bind fun _ =>
  (chk ((Int.tdiv (x6 - x5) 4) * 2)).bind fun _ =>
  (chk (x5 + ((Int.tdiv (x6 - x5) 4) * 2))).bind fun _ =>
  (ne0 4).bind fun _ =>
  (chk (Int.tdiv (x6 - x5) 4)).bind fun _ =>
  (chk ((Int.tdiv (x6 - x5) 4) * 3)).bind fun _ =>
  (chk (x5 + ((Int.tdiv (x6 - x5) 4) * 3))).bind fun _ =>
  (if 8 ≤ (x6 - x5) then (
  (if 50 ≤ (x6 - x5) then (
  (mSlicesMedianAdjacentOrdered l4 (x5 + ((Int.tdiv (x6 - x5) 4) * 1)) 0).bind (unc2 fun x209 x210 =>
  (mSlicesMedianAdjacentOrdered l4 (x5 + ((Int.tdiv (x6 - x5) 4) * 2)) x210).bind (unc2 fun x214 x215 =>
  (mSlicesMedianAdjacentOrdered l4 (x5 + ((Int.tdiv (x6 - x5) 4) * 3)) x215).bind (unc2 fun x219 x220 =>
  some (x209, x214, x219, x220)))))
  else (
  some (x5 + ((Int.tdiv (x6 - x5) 4) * 1), x5 + ((Int.tdiv (x6 - x5) 4) * 2), x5 + ((Int.tdiv (x6 - x5) 4) * 3), 0))).bind (unc4 fun x203 x204 x205 x206 =>
  (mSlicesMedianOrdered l4 x203 x204 x205 x206).bind (unc2 fun x224 x225 =>
  some (x224, x225))))
  else (
  some (x5 + ((Int.tdiv (x6 - x5) 4) * 2), 0))).bind (unc2 fun x181 x182 =>
  if x182 = 0 then (
  some (x181, 1))
  else (
  if x182 = 12 then (
  some (x181, 2))
  else (
  some (x181, 0))))

noncomputable def mSlicesReverseRangeOrdered_L882  : (Int × Int × (List Int)) → Option ((Int × Int × (List Int)) ⊕ ((List Int))) := unc3 fun x1461 x1462 l1463 =>
  if x1461 < x1462 then (
  ((idx l1463 x1462).bind fun x1678 =>
  (idx l1463 x1461).bind fun x1694 =>
  (idx l1463 x1461).bind fun _ =>
  (idx (put l1463 x1461 x1678) x1462).bind fun _ =>
  some (put (put l1463 x1461 x1678) x1462 x1694)).bind (fun l1607 =>
  (chk (x1461 + 1)).bind fun _ =>
  (chk (x1462 - 1)).bind fun _ =>
  some (.inl (x1461 + 1, x1462 - 1, l1607))))
  else (
  some (.inr l1463))

/-- slices.reverseRangeOrdered[int] -/
noncomputable def mSlicesReverseRangeOrdered (x6 : Int) (x7 : Int) (l8 : (List Int)) : Option ((List Int)) :=
  (chk (x7 - 1)).bind fun _ =>
  loopM mSlicesReverseRangeOrdered_L882 (x6, x7 - 1, l8)

noncomputable def mSlicesPartialInsertionSortOrdered_L73965 (x7 : Int) (l70309 : (List Int)) : (Int) → Option ((Int) ⊕ (Int)) := fun x74269 =>
  (if x74269 < x7 then (
  (idx l70309 x74269).bind fun x74383 =>
  (chk (x74269 - 1)).bind fun _ =>
  (idx l70309 (x74269 - 1)).bind fun x74400 =>
  (mCmpLess x74383 x74400).bind fun x74416 =>
  some (!x74416))
  else (
  some false)).bind (fun x74344 =>
  if x74344 = true then (
  (chk (x74269 + 1)).bind fun _ =>
  some (.inl (x74269 + 1)))
  else (
  some (.inr x74269)))

noncomputable def mSlicesPartialInsertionSortOrdered_L75385  : (Int × (List Int)) → Option ((Int × (List Int)) ⊕ ((List Int))) := unc2 fun x75823 l75824 =>
  if 1 ≤ x75823 then (
  (idx l75824 x75823).bind fun x75862 =>
  (chk (x75823 - 1)).bind fun _ =>
  (idx l75824 (x75823 - 1)).bind fun x75879 =>
  (mCmpLess x75862 x75879).bind fun x75895 =>
  if x75895 = true then (
  (chk (x75823 - 1)).bind fun _ =>
  (chk (x75823 - 1)).bind fun _ =>
  (idx l75824 (x75823 - 1)).bind fun x75970 =>
  (idx l75824 x75823).bind fun x75986 =>
  (idx l75824 x75823).bind fun _ =>
  (idx (put l75824 x75823 x75970) (x75823 - 1)).bind fun _ =>
  (chk (x75823 - 1)).bind fun _ =>
  some (.inl (x75823 - 1, put (put l75824 x75823 x75970) (x75823 - 1) x75986)))
  else (
  some (.inr l75824)))
  else (
  some (.inr l75824))

noncomputable def mSlicesPartialInsertionSortOrdered_L76042 (x7 : Int) (x73963 : Int) : (Int × (List Int)) → Option ((Int × (List Int)) ⊕ ((Int × (List Int)) ⊕ ((Int × Int × (List Int)) ⊕ (((List Int)) ⊕ (Bool × (List Int)))))) := unc2 fun x76480 l76481 =>
  if x76480 < x7 then (
  (idx l76481 x76480).bind fun x76519 =>
  (chk (x76480 - 1)).bind fun _ =>
  (idx l76481 (x76480 - 1)).bind fun x76536 =>
  (mCmpLess x76519 x76536).bind fun x76552 =>
  if x76552 = true then (
  (chk (x76480 - 1)).bind fun _ =>
  (chk (x76480 - 1)).bind fun _ =>
  (idx l76481 (x76480 - 1)).bind fun x76627 =>
  (idx l76481 x76480).bind fun x76643 =>
  (idx l76481 x76480).bind fun _ =>
  (idx (put l76481 x76480 x76627) (x76480 - 1)).bind fun _ =>
  (chk (x76480 + 1)).bind fun _ =>
  some (.inl (x76480 + 1, put (put l76481 x76480 x76627) (x76480 - 1) x76643)))
  else (
  some (.inr (.inl (x73963, l76481)))))
  else (
  some (.inr (.inl (x73963, l76481))))

noncomputable def mSlicesPartialInsertionSortOrdered_L57530 (x6 : Int) (x7 : Int) : (Int × Int × (List Int)) → Option ((Int × Int × (List Int)) ⊕ (((List Int)) ⊕ (Bool × (List Int)))) := unc3 fun x70307 x70308 l70309 =>
  if x70308 < 5 then (
  ((loopM (mSlicesPartialInsertionSortOrdered_L73965 x7 l70309) x70307).bind (fun x73963 =>
  if x73963 = x7 then (
  some (.inr (.inr (.inr (true, l70309)))))
  else (
  (chk (x7 - x6)).bind fun _ =>
  if (x7 - x6) < 50 then (
  some (.inr (.inr (.inr (false, l70309)))))
  else (
  ((chk (x73963 - 1)).bind fun _ =>
  (chk (x73963 - 1)).bind fun _ =>
  (idx l70309 (x73963 - 1)).bind fun x74649 =>
  (idx l70309 x73963).bind fun x74665 =>
  (idx l70309 x73963).bind fun _ =>
  (idx (put l70309 x73963 x74649) (x73963 - 1)).bind fun _ =>
  some (put (put l70309 x73963 x74649) (x73963 - 1) x74665)).bind (fun l74574 =>
  ((chk (x73963 - x6)).bind fun _ =>
  if 2 ≤ (x73963 - x6) then (
  (chk (x73963 - 1)).bind fun _ =>
  loopM mSlicesPartialInsertionSortOrdered_L75385 (x73963 - 1, l74574))
  else (
  some l74574)).bind (fun l75379 =>
  (chk (x7 - x73963)).bind fun _ =>
  if 2 ≤ (x7 - x73963) then (
  (chk (x73963 + 1)).bind fun _ =>
  loopM (mSlicesPartialInsertionSortOrdered_L76042 x7 x73963) (x73963 + 1, l75379))
  else (
  some (.inl (x73963, l75379))))))))).bind fun t => Sum.elim (unc2 fun x73501 l73502 =>
  (chk (x70308 + 1)).bind fun _ =>
  some (.inl (x73501, x70308 + 1, l73502))) (fun r76698 => some r76698) t)
  else (
  some (.inr (.inl l70309)))

/-- slices.partialInsertionSortOrdered[int] -/
noncomputable def mSlicesPartialInsertionSortOrdered (x6 : Int) (x7 : Int) (l8 : (List Int)) : Option (Bool × (List Int)) :=
  (chk (x6 + 1)).bind fun _ =>
  (loopM (mSlicesPartialInsertionSortOrdered_L57530 x6 x7) (x6 + 1, 0, l8)).bind fun t => Sum.elim (fun l57526 =>
  some (false, l57526)) (fun r76700 => some r76700) t

noncomputable def mSlicesPartitionEqualOrdered_L23806 (x6 : Int) (l23357 : (List Int)) (x23356 : Int) : (Int) → Option ((Int) ⊕ (Int)) := fun x24102 =>
  (if x24102 ≤ x23356 then (
  (idx l23357 x6).bind fun x24213 =>
  (idx l23357 x24102).bind fun x24229 =>
  (mCmpLess x24213 x24229).bind fun x24245 =>
  some (!x24245))
  else (
  some false)).bind (fun x24175 =>
  if x24175 = true then (
  (chk (x24102 + 1)).bind fun _ =>
  some (.inl (x24102 + 1)))
  else (
  some (.inr x24102)))

noncomputable def mSlicesPartitionEqualOrdered_L24696 (x6 : Int) (l23357 : (List Int)) (x23804 : Int) : (Int) → Option ((Int) ⊕ (Int)) := fun x24992 =>
  (if x23804 ≤ x24992 then (
  (idx l23357 x6).bind fun x25103 =>
  (idx l23357 x24992).bind fun x25119 =>
  (mCmpLess x25103 x25119).bind fun x25135 =>
  some x25135)
  else (
  some false)).bind (fun x25065 =>
  if x25065 = true then (
  (chk (x24992 - 1)).bind fun _ =>
  some (.inl (x24992 - 1)))
  else (
  some (.inr x24992)))

noncomputable def mSlicesPartitionEqualOrdered_L19216 (x6 : Int) : (Int × Int × (List Int)) → Option ((Int × Int × (List Int)) ⊕ (Int × (List Int))) := unc3 fun x23355 x23356 l23357 =>
  (loopM (mSlicesPartitionEqualOrdered_L23806 x6 l23357 x23356) x23355).bind (fun x23804 =>
  (loopM (mSlicesPartitionEqualOrdered_L24696 x6 l23357 x23804) x23356).bind (fun x24694 =>
  if x24694 < x23804 then (
  some (.inr (x23804, l23357)))
  else (
  ((idx l23357 x24694).bind fun x25352 =>
  (idx l23357 x23804).bind fun x25368 =>
  (idx l23357 x23804).bind fun _ =>
  (idx (put l23357 x23804 x25352) x24694).bind fun _ =>
  some (put (put l23357 x23804 x25352) x24694 x25368)).bind (fun l25281 =>
  (chk (x23804 + 1)).bind fun _ =>
  (chk (x24694 - 1)).bind fun _ =>
  some (.inl (x23804 + 1, x24694 - 1, l25281))))))

/-- slices.partitionEqualOrdered[int] -/
noncomputable def mSlicesPartitionEqualOrdered (x6 : Int) (x7 : Int) (x8 : Int) (l9 : (List Int)) : Option (Int × (List Int)) :=
  ((idx l9 x8).bind fun x12931 =>
  (idx l9 x6).bind fun x12947 =>
  (idx l9 x6).bind fun _ =>
  (idx (put l9 x6 x12931) x8).bind fun _ =>
  some (put (put l9 x6 x12931) x8 x12947)).bind (fun l12860 =>
  (chk (x6 + 1)).bind fun _ =>
  (chk (x7 - 1)).bind fun _ =>
  (loopM (mSlicesPartitionEqualOrdered_L19216 x6) (x6 + 1, x7 - 1, l12860)).bind (unc2 fun x19212 l19213 =>
  some (x19212, l19213)))

noncomputable def mSlicesPartitionOrdered_L16072 (x6 : Int) (x7 : Int) (l15484 : (List Int)) : (Int) → Option ((Int) ⊕ (Int)) := fun x16368 =>
  (if x16368 ≤ (x7 - 1) then (
  (idx l15484 x16368).bind fun x16479 =>
  (idx l15484 x6).bind fun x16495 =>
  (mCmpLess x16479 x16495).bind fun x16511 =>
  some x16511)
  else (
  some false)).bind (fun x16441 =>
  if x16441 = true then (
  (chk (x16368 + 1)).bind fun _ =>
  some (.inl (x16368 + 1)))
  else (
  some (.inr x16368)))

noncomputable def mSlicesPartitionOrdered_L16962 (x6 : Int) (l15484 : (List Int)) (x16070 : Int) : (Int) → Option ((Int) ⊕ (Int)) := fun x17258 =>
  (if x16070 ≤ x17258 then (
  (idx l15484 x17258).bind fun x17369 =>
  (idx l15484 x6).bind fun x17385 =>
  (mCmpLess x17369 x17385).bind fun x17401 =>
  some (!x17401))
  else (
  some false)).bind (fun x17331 =>
  if x17331 = true then (
  (chk (x17258 - 1)).bind fun _ =>
  some (.inl (x17258 - 1)))
  else (
  some (.inr x17258)))

noncomputable def mSlicesPartitionOrdered_L28773 (x6 : Int) (l28324 : (List Int)) (x28323 : Int) : (Int) → Option ((Int) ⊕ (Int)) := fun x29069 =>
  (if x29069 ≤ x28323 then (
  (idx l28324 x29069).bind fun x29180 =>
  (idx l28324 x6).bind fun x29196 =>
  (mCmpLess x29180 x29196).bind fun x29212 =>
  some x29212)
  else (
  some false)).bind (fun x29142 =>
  if x29142 = true then (
  (chk (x29069 + 1)).bind fun _ =>
  some (.inl (x29069 + 1)))
  else (
  some (.inr x29069)))

noncomputable def mSlicesPartitionOrdered_L29663 (x6 : Int) (l28324 : (List Int)) (x28771 : Int) : (Int) → Option ((Int) ⊕ (Int)) := fun x29959 =>
  (if x28771 ≤ x29959 then (
  (idx l28324 x29959).bind fun x30070 =>
  (idx l28324 x6).bind fun x30086 =>
  (mCmpLess x30070 x30086).bind fun x30102 =>
  some (!x30102))
  else (
  some false)).bind (fun x30032 =>
  if x30032 = true then (
  (chk (x29959 - 1)).bind fun _ =>
  some (.inl (x29959 - 1)))
  else (
  some (.inr x29959)))

noncomputable def mSlicesPartitionOrdered_L24183 (x6 : Int) : (Int × Int × (List Int)) → Option ((Int × Int × (List Int)) ⊕ (Int × (List Int))) := unc3 fun x28322 x28323 l28324 =>
  (loopM (mSlicesPartitionOrdered_L28773 x6 l28324 x28323) x28322).bind (fun x28771 =>
  (loopM (mSlicesPartitionOrdered_L29663 x6 l28324 x28771) x28323).bind (fun x29661 =>
  if x29661 < x28771 then (
  some (.inr (x29661, l28324)))
  else (
  ((idx l28324 x29661).bind fun x30319 =>
  (idx l28324 x28771).bind fun x30335 =>
  (idx l28324 x28771).bind fun _ =>
  (idx (put l28324 x28771 x30319) x29661).bind fun _ =>
  some (put (put l28324 x28771 x30319) x29661 x30335)).bind (fun l30248 =>
  (chk (x28771 + 1)).bind fun _ =>
  (chk (x29661 - 1)).bind fun _ =>
  some (.inl (x28771 + 1, x29661 - 1, l30248))))))

/-- slices.partitionOrdered[int] -/
noncomputable def mSlicesPartitionOrdered (x6 : Int) (x7 : Int) (x8 : Int) (l9 : (List Int)) : Option (Int × Bool × (List Int)) :=
  ((idx l9 x8).bind fun x15555 =>
  (idx l9 x6).bind fun x15571 =>
  (idx l9 x6).bind fun _ =>
  (idx (put l9 x6 x15555) x8).bind fun _ =>
  some (put (put l9 x6 x15555) x8 x15571)).bind (fun l15484 =>
  (chk (x6 + 1)).bind fun _ =>
  (chk (x7 - 1)).bind fun _ =>
  (loopM (mSlicesPartitionOrdered_L16072 x6 x7 l15484) (x6 + 1)).bind (fun x16070 =>
  (loopM (mSlicesPartitionOrdered_L16962 x6 l15484 x16070) (x7 - 1)).bind (fun x16960 =>
  if x16960 < x16070 then (
  ((idx l15484 x6).bind fun x17618 =>
  (idx l15484 x16960).bind fun x17634 =>
  (idx l15484 x16960).bind fun _ =>
  (idx (put l15484 x16960 x17618) x6).bind fun _ =>
  some (put (put l15484 x16960 x17618) x6 x17634)).bind (fun l17547 =>
  some (x16960, true, l17547)))
  else (
  ((idx l15484 x16960).bind fun x17898 =>
  (idx l15484 x16070).bind fun x17914 =>
  (idx l15484 x16070).bind fun _ =>
  (idx (put l15484 x16070 x17898) x16960).bind fun _ =>
  some (put (put l15484 x16070 x17898) x16960 x17914)).bind (fun l17827 =>
  (chk (x16070 + 1)).bind fun _ =>
  (chk (x16960 - 1)).bind fun _ =>
  (loopM (mSlicesPartitionOrdered_L24183 x6) (x16070 + 1, x16960 - 1, l17827)).bind (unc2 fun x24179 l24180 =>
  ((idx l24180 x6).bind fun x30601 =>
  (idx l24180 x24179).bind fun x30617 =>
  (idx l24180 x24179).bind fun _ =>
  (idx (put l24180 x24179 x30601) x6).bind fun _ =>
  some (put (put l24180 x24179 x30601) x6 x30617)).bind (fun l30530 =>
  some (x24179, false, l30530))))))))

/-- slices.nextPowerOfTwo -/
noncomputable def mSlicesNextPowerOfTwo (x1 : Int) : Option (Int) :=
  (mBitsLen (IntKind.wrap .u64 x1)).bind fun x6 =>
  (shN x6).bind fun _ =>
  some (shlI .u64 1 x6)

/-- (*slices.xorshift).Next -/
noncomputable def mSlicesXorshiftNext (x2 : Int) : Option (Int × Int) :=
  (shN 13).bind fun _ =>
  (shN 7).bind fun _ =>
  (shN 17).bind fun _ =>
  some (xorI .u64 (xorI .u64 (xorI .u64 x2 (shlI .u64 x2 13)) (shrI .u64 (xorI .u64 x2 (shlI .u64 x2 13)) 7)) (shlI .u64 (xorI .u64 (xorI .u64 x2 (shlI .u64 x2 13)) (shrI .u64 (xorI .u64 x2 (shlI .u64 x2 13)) 7)) 17), xorI .u64 (xorI .u64 (xorI .u64 x2 (shlI .u64 x2 13)) (shrI .u64 (xorI .u64 x2 (shlI .u64 x2 13)) 7)) (shlI .u64 (xorI .u64 (xorI .u64 x2 (shlI .u64 x2 13)) (shrI .u64 (xorI .u64 x2 (shlI .u64 x2 13)) 7)) 17))

noncomputable def mSlicesBreakPatternsOrdered_L531 (x6 : Int) (x7 : Int) (x524 : Int) : (Int × Int × (List Int)) → Option ((Int × Int × (List Int)) ⊕ ((List Int))) := unc3 fun x864 x865 l866 =>
  (ne0 4).bind fun _ =>
  (chk (Int.tdiv (x7 - x6) 4)).bind fun _ =>
  (chk ((Int.tdiv (x7 - x6) 4) * 2)).bind fun _ =>
  (chk (x6 + ((Int.tdiv (x7 - x6) 4) * 2))).bind fun _ =>
  (chk ((x6 + ((Int.tdiv (x7 - x6) 4) * 2)) + 1)).bind fun _ =>
  if x864 ≤ ((x6 + ((Int.tdiv (x7 - x6) 4) * 2)) + 1) then (
  (mSlicesXorshiftNext x865).bind (unc2 fun x874 x875 =>
  (if (x7 - x6) ≤ (IntKind.wrap .i64 (andI .u64 x874 (IntKind.wrap .u64 (x524 - 1)))) then (
  (chk ((IntKind.wrap .i64 (andI .u64 x874 (IntKind.wrap .u64 (x524 - 1)))) - (x7 - x6))).bind fun _ =>
  some ((IntKind.wrap .i64 (andI .u64 x874 (IntKind.wrap .u64 (x524 - 1)))) - (x7 - x6)))
  else (
  some (IntKind.wrap .i64 (andI .u64 x874 (IntKind.wrap .u64 (x524 - 1)))))).bind (fun x883 =>
  (chk (x6 + x883)).bind fun _ =>
  (chk (x6 + x883)).bind fun _ =>
  (idx l866 (x6 + x883)).bind fun x959 =>
  (idx l866 x864).bind fun x975 =>
  (idx l866 x864).bind fun _ =>
  (idx (put l866 x864 x959) (x6 + x883)).bind fun _ =>
  (chk (x864 + 1)).bind fun _ =>
  some (.inl (x864 + 1, x875, put (put l866 x864 x959) (x6 + x883) x975)))))
  else (
  some (.inr l866))

/-- slices.breakPatternsOrdered[int] -/
noncomputable def mSlicesBreakPatternsOrdered (x6 : Int) (x7 : Int) (l8 : (List Int)) : Option ((List Int)) :=
  (chk (x7 - x6)).bind fun _ =>
  if 8 ≤ (x7 - x6) then (
  (mSlicesNextPowerOfTwo (x7 - x6)).bind fun x524 =>
  (ne0 4).bind fun _ =>
  (chk (Int.tdiv (x7 - x6) 4)).bind fun _ =>
  (chk ((Int.tdiv (x7 - x6) 4) * 2)).bind fun _ =>
  (chk (x6 + ((Int.tdiv (x7 - x6) 4) * 2))).bind fun _ =>
  (chk ((x6 + ((Int.tdiv (x7 - x6) 4) * 2)) - 1)).bind fun _ =>
  loopM (mSlicesBreakPatternsOrdered_L531 x6 x7 x524) ((x6 + ((Int.tdiv (x7 - x6) 4) * 2)) - 1, IntKind.wrap .u64 (x7 - x6), l8))
  else (
  some l8)

noncomputable def mSlicesPdqsortOrdered_L2079 (rcmSlicesPdqsortOrdered : (Int) → (Int) → (Int) → ((List Int)) → Option ((List Int))) : (Int × Int × Int × Bool × Bool × (List Int)) → Option ((Int × Int × Int × Bool × Bool × (List Int)) ⊕ ((List Int))) := unc6 fun x3009 x3010 x3011 x3012 x3013 l3014 =>
  (chk (x3010 - x3009)).bind fun _ =>
  if (x3010 - x3009) ≤ 12 then (
  (mSlicesInsertionSortOrdered x3009 x3010 l3014).bind fun l3018 =>
  some (.inr l3018))
  else (
  if x3011 = 0 then (
  (mSlicesHeapSortOrdered x3009 x3010 l3014).bind fun l3026 =>
  some (.inr l3026))
  else (
  (if x3012 = true then (
  some (x3011, l3014))
  else (
  (mSlicesBreakPatternsOrdered x3009 x3010 l3014).bind fun l3052 =>
  (chk (x3011 - 1)).bind fun _ =>
  some (x3011 - 1, l3052))).bind (unc2 fun x3047 l3048 =>
  (mSlicesChoosePivotOrdered l3048 x3009 x3010).bind (unc2 fun x3060 x3061 =>
  (if x3061 = 2 then (
  (mSlicesReverseRangeOrdered x3009 x3010 l3048).bind fun l3085 =>
  (chk (x3010 - 1)).bind fun _ =>
  (chk (x3060 - x3009)).bind fun _ =>
  (chk ((x3010 - 1) - (x3060 - x3009))).bind fun _ =>
  some ((x3010 - 1) - (x3060 - x3009), 1, l3085))
  else (
  some (x3060, x3061, l3048))).bind (unc3 fun x3079 x3080 l3081 =>
  ((if x3012 = true then (
  if x3013 = true then (
  some (decide (x3080 = 1)))
  else (
  some false))
  else (
  some false)).bind (fun x3126 =>
  if x3126 = true then (
  (mSlicesPartialInsertionSortOrdered x3009 x3010 l3081).bind (unc2 fun x3131 l3132 =>
  if x3131 = true then (
  some (.inr (.inr l3132)))
  else (
  some (.inl l3132))))
  else (
  some (.inl l3081)))).bind fun t => Sum.elim (fun l3118 =>
  (if 0 < x3009 then (
  (chk (x3009 - 1)).bind fun _ =>
  (idx l3118 (x3009 - 1)).bind fun x3256 =>
  (idx l3118 x3079).bind fun x3272 =>
  (mCmpLess x3256 x3272).bind fun x3288 =>
  some (!x3288))
  else (
  some false)).bind (fun x3216 =>
  if x3216 = true then (
  (mSlicesPartitionEqualOrdered x3009 x3010 x3079 l3118).bind (unc2 fun x3291 l3292 =>
  some (.inl (x3291, x3010, x3047, x3012, x3013, l3292))))
  else (
  (mSlicesPartitionOrdered x3009 x3010 x3079 l3118).bind (unc3 fun x3299 x3300 l3301 =>
  (chk (x3299 - x3009)).bind fun _ =>
  (chk (x3010 - x3299)).bind fun _ =>
  (ne0 8).bind fun _ =>
  (chk (Int.tdiv (x3010 - x3009) 8)).bind fun _ =>
  if (x3299 - x3009) < (x3010 - x3299) then (
  (rcmSlicesPdqsortOrdered x3009 x3299 x3047 l3301).bind fun l3313 =>
  (chk (x3299 + 1)).bind fun _ =>
  some (.inl (x3299 + 1, x3010, x3047, decide ((Int.tdiv (x3010 - x3009) 8) ≤ (x3299 - x3009)), x3300, l3313)))
  else (
  (chk (x3299 + 1)).bind fun _ =>
  (rcmSlicesPdqsortOrdered (x3299 + 1) x3010 x3047 l3301).bind fun l3322 =>
  some (.inl (x3009, x3299, x3047, decide ((Int.tdiv (x3010 - x3009) 8) ≤ (x3010 - x3299)), x3300, l3322))))))) (fun r3329 => some r3329) t)))))

/-- slices.pdqsortOrdered[int] -/
noncomputable def mSlicesPdqsortOrdered : Nat → (Int) → (Int) → (Int) → ((List Int)) → Option ((List Int))
  | 0 => fun _ _ _ _ => none
  | N + 1 => fun x6 x7 x8 l9 =>
  loopM (mSlicesPdqsortOrdered_L2079 (mSlicesPdqsortOrdered N)) (x6, x7, x8, true, true, l9)

/-- slices.Sort[[]int,int] -/
noncomputable def mSlicesSort (l6 : (List Int)) : Option ((List Int)) :=
  (mBitsLen (IntKind.wrap .u64 (l6.length : Int))).bind fun x21 =>
  (lim (fun N => mSlicesPdqsortOrdered N 0 (l6.length : Int) x21 l6)).bind fun l23 =>
  some l23

noncomputable def mFleetStandIns_1_3_L3416 (l48 : (List FleetShift)) (l60 : (List Int)) (l63 : (List (Int × Int))) (l64 : (List (FleetAbsence × Bool))) (x44 : Int) (x49 : Int) (x50 : Int) (x51 : Int) (x52 : Int) (x53 : Int) (x54 : Int) (x55 : Int) (x3400 : Int) (rcmFleetStandIns_1_3 : (Int) → ((List FleetShift)) → (Int) → (Int) → (Int) → (Int) → (Int) → (Int) → (Int) → ((List (List Int))) → ((List Int)) → ((List Int)) → ((List Int)) → ((List (List Int))) → ((List (Int × Int))) → ((List (FleetAbsence × Bool))) → Option ((List Int) × (List (List Int)) × (List (List Int)) × (List Int))) (k4486 : Nat) : ((List (List Int)) × (List Int) × (List (List Int)) × (List Int)) → Option ((List (List Int)) × (List Int) × (List (List Int)) × (List Int)) := unc4 fun l4479 l4482 l4483 l4485 =>
  (idx l4479 (k4486 : Int)).bind fun x4489 =>
  ((some (mgetD l63 x3400 0)).bind fun x4585 =>
  if (k4486 : Int) = x4585 then (
  some true)
  else (
  (idx l48 x3400).bind fun x4589 =>
  (some (mgetD l64 (⟨(k4486 : Int), x4589.Day⟩ : FleetAbsence) false)).bind fun x4602 =>
  some x4602)).bind (fun x4557 =>
  if x4557 = true then (
  some (l4479, l4482, l4483, l4485))
  else (
  ((mSlicesClone x4489).bind fun l4756 =>
  (room 8 (l4756.length + 1)).bind fun _ =>
  (idx l4479 (k4486 : Int)).bind fun _ =>
  some (put l4479 (k4486 : Int) (l4756 ++ [x3400]))).bind (fun l4705 =>
  ((idx l4705 (k4486 : Int)).bind fun x4923 =>
  (mFleetFits l48 x4923 (⟨x49, x50, x51, x52, x53, x54, x55⟩ : FleetLimits)).bind fun x4943 =>
  if x4943 = true then (
  (chk (x44 + 1)).bind fun _ =>
  (rcmFleetStandIns_1_3 (x44 + 1) l48 x49 x50 x51 x52 x53 x54 x55 l4483 l4482 l4485 l60 l4705 l63 l64).bind (unc4 fun l4947 l4948 l4949 l4950 =>
  some (l4948, l4947, l4949, l4950)))
  else (
  some (l4705, l4482, l4483, l4485))).bind (unc4 fun l4893 l4896 l4897 l4899 =>
  (idx l4893 (k4486 : Int)).bind fun _ =>
  some (put l4893 (k4486 : Int) x4489, l4896, l4897, l4899)))))

/-- fishplate/fleet.StandIns-1 -/
noncomputable def mFleetStandIns_1_3 (rcmFleetStandIns_1_2 : (Int) → ((List FleetShift)) → (Int) → (Int) → (Int) → (Int) → (Int) → (Int) → (Int) → ((List (List Int))) → ((List Int)) → ((List Int)) → ((List Int)) → ((List (List Int))) → ((List (Int × Int))) → ((List (FleetAbsence × Bool))) → Option ((List Int) × (List (List Int)) × (List (List Int)) × (List Int))) : Nat → (Int) → ((List FleetShift)) → (Int) → (Int) → (Int) → (Int) → (Int) → (Int) → (Int) → ((List (List Int))) → ((List Int)) → ((List Int)) → ((List Int)) → ((List (List Int))) → ((List (Int × Int))) → ((List (FleetAbsence × Bool))) → Option ((List Int) × (List (List Int)) × (List (List Int)) × (List Int))
  | 0 => fun _ _ _ _ _ _ _ _ _ _ _ _ _ _ _ _ => none
  | N + 1 => fun x44 l48 x49 x50 x51 x52 x53 x54 x55 l56 l58 l59 l60 l61 l63 l64 =>
  (if l56.isEmpty = true then (
  some false)
  else (
  some (decide ((l59.length : Int) ≤ (l58.length : Int))))).bind (fun x3313 =>
  if x3313 = true then (
  some (l58, l61, l56, l59))
  else (
  if x44 = (l60.length : Int) then (
  ((room 24 l61.length).bind fun _ =>
  (mSlicesClone l58).bind fun l3388 =>
  (some? l61).bind fun _ =>
  some (l61, l3388)).bind (unc2 fun l3364 l3366 =>
  some (l58, l61, l3364, l3366)))
  else (
  (idx l60 x44).bind fun x3400 =>
  (forS (mFleetStandIns_1_3_L3416 l48 l60 l63 l64 x44 x49 x50 x51 x52 x53 x54 x55 x3400 (mFleetStandIns_1_3 rcmFleetStandIns_1_2 N)) l61.length 0 (l61, l58, l56, l59)).bind (unc4 fun l4479 l4482 l4483 l4485 =>
  (room 8 (l4482.length + 1)).bind fun _ =>
  (chk (x44 + 1)).bind fun _ =>
  (rcmFleetStandIns_1_2 (x44 + 1) l48 x49 x50 x51 x52 x53 x54 x55 l4483 (l4482 ++ [x3400]) l4485 l60 l4479 l63 l64).bind (unc4 fun l5004 l5005 l5006 l5007 =>
  (chk ((l5004.length : Int) - 1)).bind fun _ =>
  (cutS l5004 0 ((l5004.length : Int) - 1)).bind fun l5029 =>
  some (l5029, l5005, l5006, l5007))))))

noncomputable def mFleetStandIns_1_2_L5000 (l48 : (List FleetShift)) (l61 : (List Int)) (l64 : (List (Int × Int))) (l65 : (List (FleetAbsence × Bool))) (x44 : Int) (x49 : Int) (x50 : Int) (x51 : Int) (x52 : Int) (x53 : Int) (x54 : Int) (x55 : Int) (x4984 : Int) (rcmFleetStandIns_1_2 : (Int) → ((List FleetShift)) → (Int) → (Int) → (Int) → (Int) → (Int) → (Int) → (Int) → ((List (List Int))) → ((List Int)) → ((List Int)) → ((List Int)) → ((List (List Int))) → ((List (Int × Int))) → ((List (FleetAbsence × Bool))) → Option ((List Int) × (List (List Int)) × (List (List Int)) × (List Int))) (k6070 : Nat) : ((List (List Int)) × (List Int) × (List (List Int)) × (List Int)) → Option ((List (List Int)) × (List Int) × (List (List Int)) × (List Int)) := unc4 fun l6063 l6066 l6067 l6069 =>
  (idx l6063 (k6070 : Int)).bind fun x6073 =>
  ((some (mgetD l64 x4984 0)).bind fun x6169 =>
  if (k6070 : Int) = x6169 then (
  some true)
  else (
  (idx l48 x4984).bind fun x6173 =>
  (some (mgetD l65 (⟨(k6070 : Int), x6173.Day⟩ : FleetAbsence) false)).bind fun x6186 =>
  some x6186)).bind (fun x6141 =>
  if x6141 = true then (
  some (l6063, l6066, l6067, l6069))
  else (
  ((mSlicesClone x6073).bind fun l6340 =>
  (room 8 (l6340.length + 1)).bind fun _ =>
  (idx l6063 (k6070 : Int)).bind fun _ =>
  some (put l6063 (k6070 : Int) (l6340 ++ [x4984]))).bind (fun l6289 =>
  ((idx l6289 (k6070 : Int)).bind fun x6507 =>
  (mFleetFits l48 x6507 (⟨x49, x50, x51, x52, x53, x54, x55⟩ : FleetLimits)).bind fun x6527 =>
  if x6527 = true then (
  (chk (x44 + 1)).bind fun _ =>
  (lim (fun N => mFleetStandIns_1_3 rcmFleetStandIns_1_2 N (x44 + 1) l48 x49 x50 x51 x52 x53 x54 x55 l6067 l6066 l6069 l61 l6289 l64 l65)).bind (unc4 fun l6531 l6532 l6533 l6534 =>
  some (l6532, l6531, l6533, l6534)))
  else (
  some (l6289, l6066, l6067, l6069))).bind (unc4 fun l6477 l6480 l6481 l6483 =>
  (idx l6477 (k6070 : Int)).bind fun _ =>
  some (put l6477 (k6070 : Int) x6073, l6480, l6481, l6483)))))

/-- fishplate/fleet.StandIns-1 -/
noncomputable def mFleetStandIns_1_2 : Nat → (Int) → ((List FleetShift)) → (Int) → (Int) → (Int) → (Int) → (Int) → (Int) → (Int) → ((List (List Int))) → ((List Int)) → ((List Int)) → ((List Int)) → ((List (List Int))) → ((List (Int × Int))) → ((List (FleetAbsence × Bool))) → Option ((List Int) × (List (List Int)) × (List (List Int)) × (List Int))
  | 0 => fun _ _ _ _ _ _ _ _ _ _ _ _ _ _ _ _ => none
  | N + 1 => fun x44 l48 x49 x50 x51 x52 x53 x54 x55 l56 l58 l60 l61 l62 l64 l65 =>
  (if l56.isEmpty = true then (
  some false)
  else (
  some (decide ((l60.length : Int) ≤ (l58.length : Int))))).bind (fun x4897 =>
  if x4897 = true then (
  some (l58, l62, l56, l60))
  else (
  if x44 = (l61.length : Int) then (
  ((room 24 l62.length).bind fun _ =>
  (mSlicesClone l58).bind fun l4972 =>
  (some? l62).bind fun _ =>
  some (l62, l4972)).bind (unc2 fun l4948 l4950 =>
  some (l58, l62, l4948, l4950)))
  else (
  (idx l61 x44).bind fun x4984 =>
  (forS (mFleetStandIns_1_2_L5000 l48 l61 l64 l65 x44 x49 x50 x51 x52 x53 x54 x55 x4984 (mFleetStandIns_1_2 N)) l62.length 0 (l62, l58, l56, l60)).bind (unc4 fun l6063 l6066 l6067 l6069 =>
  (room 8 (l6066.length + 1)).bind fun _ =>
  (chk (x44 + 1)).bind fun _ =>
  ((mFleetStandIns_1_2 N) (x44 + 1) l48 x49 x50 x51 x52 x53 x54 x55 l6067 (l6066 ++ [x4984]) l6069 l61 l6063 l64 l65).bind (unc4 fun l6588 l6589 l6590 l6591 =>
  (chk ((l6588.length : Int) - 1)).bind fun _ =>
  (cutS l6588 0 ((l6588.length : Int) - 1)).bind fun l6613 =>
  some (l6613, l6589, l6590, l6591))))))

noncomputable def mFleetStandIns_1_4_L3416 (l48 : (List FleetShift)) (l60 : (List Int)) (l63 : (List (Int × Int))) (l64 : (List (FleetAbsence × Bool))) (x44 : Int) (x49 : Int) (x50 : Int) (x51 : Int) (x52 : Int) (x53 : Int) (x54 : Int) (x55 : Int) (x3400 : Int) (rcmFleetStandIns_1_4 : (Int) → ((List FleetShift)) → (Int) → (Int) → (Int) → (Int) → (Int) → (Int) → (Int) → ((List (List Int))) → ((List Int)) → ((List Int)) → ((List Int)) → ((List (List Int))) → ((List (Int × Int))) → ((List (FleetAbsence × Bool))) → Option ((List Int) × (List (List Int)) × (List (List Int)) × (List Int))) (k4486 : Nat) : ((List (List Int)) × (List Int) × (List (List Int)) × (List Int)) → Option ((List (List Int)) × (List Int) × (List (List Int)) × (List Int)) := unc4 fun l4479 l4482 l4483 l4485 =>
  (idx l4479 (k4486 : Int)).bind fun x4489 =>
  ((some (mgetD l63 x3400 0)).bind fun x4585 =>
  if (k4486 : Int) = x4585 then (
  some true)
  else (
  (idx l48 x3400).bind fun x4589 =>
  (some (mgetD l64 (⟨(k4486 : Int), x4589.Day⟩ : FleetAbsence) false)).bind fun x4602 =>
  some x4602)).bind (fun x4557 =>
  if x4557 = true then (
  some (l4479, l4482, l4483, l4485))
  else (
  ((mSlicesClone x4489).bind fun l4756 =>
  (room 8 (l4756.length + 1)).bind fun _ =>
  (idx l4479 (k4486 : Int)).bind fun _ =>
  some (put l4479 (k4486 : Int) (l4756 ++ [x3400]))).bind (fun l4705 =>
  ((idx l4705 (k4486 : Int)).bind fun x4923 =>
  (mFleetFits l48 x4923 (⟨x49, x50, x51, x52, x53, x54, x55⟩ : FleetLimits)).bind fun x4943 =>
  if x4943 = true then (
  (chk (x44 + 1)).bind fun _ =>
  (rcmFleetStandIns_1_4 (x44 + 1) l48 x49 x50 x51 x52 x53 x54 x55 l4483 l4482 l4485 l60 l4705 l63 l64).bind (unc4 fun l4947 l4948 l4949 l4950 =>
  some (l4948, l4947, l4949, l4950)))
  else (
  some (l4705, l4482, l4483, l4485))).bind (unc4 fun l4893 l4896 l4897 l4899 =>
  (idx l4893 (k4486 : Int)).bind fun _ =>
  some (put l4893 (k4486 : Int) x4489, l4896, l4897, l4899)))))

/-- fishplate/fleet.StandIns-1 -/
noncomputable def mFleetStandIns_1_4 : Nat → (Int) → ((List FleetShift)) → (Int) → (Int) → (Int) → (Int) → (Int) → (Int) → (Int) → ((List (List Int))) → ((List Int)) → ((List Int)) → ((List Int)) → ((List (List Int))) → ((List (Int × Int))) → ((List (FleetAbsence × Bool))) → Option ((List Int) × (List (List Int)) × (List (List Int)) × (List Int))
  | 0 => fun _ _ _ _ _ _ _ _ _ _ _ _ _ _ _ _ => none
  | N + 1 => fun x44 l48 x49 x50 x51 x52 x53 x54 x55 l56 l58 l59 l60 l61 l63 l64 =>
  (if l56.isEmpty = true then (
  some false)
  else (
  some (decide ((l59.length : Int) ≤ (l58.length : Int))))).bind (fun x3313 =>
  if x3313 = true then (
  some (l58, l61, l56, l59))
  else (
  if x44 = (l60.length : Int) then (
  ((room 24 l61.length).bind fun _ =>
  (mSlicesClone l58).bind fun l3388 =>
  (some? l61).bind fun _ =>
  some (l61, l3388)).bind (unc2 fun l3364 l3366 =>
  some (l58, l61, l3364, l3366)))
  else (
  (idx l60 x44).bind fun x3400 =>
  (forS (mFleetStandIns_1_4_L3416 l48 l60 l63 l64 x44 x49 x50 x51 x52 x53 x54 x55 x3400 (mFleetStandIns_1_4 N)) l61.length 0 (l61, l58, l56, l59)).bind (unc4 fun l4479 l4482 l4483 l4485 =>
  (room 8 (l4482.length + 1)).bind fun _ =>
  (chk (x44 + 1)).bind fun _ =>
  (lim (fun N => mFleetStandIns_1_2 N (x44 + 1) l48 x49 x50 x51 x52 x53 x54 x55 l4483 (l4482 ++ [x3400]) l4485 l60 l4479 l63 l64)).bind (unc4 fun l5004 l5005 l5006 l5007 =>
  (chk ((l5004.length : Int) - 1)).bind fun _ =>
  (cutS l5004 0 ((l5004.length : Int) - 1)).bind fun l5029 =>
  some (l5029, l5005, l5006, l5007))))))

noncomputable def mFleetStandIns_1_L5614 (l48 : (List FleetShift)) (l62 : (List Int)) (l65 : (List (Int × Int))) (l66 : (List (FleetAbsence × Bool))) (x44 : Int) (x49 : Int) (x50 : Int) (x51 : Int) (x52 : Int) (x53 : Int) (x54 : Int) (x55 : Int) (x5598 : Int) (k6684 : Nat) : ((List (List Int)) × (List Int) × (List (List Int)) × (List Int)) → Option ((List (List Int)) × (List Int) × (List (List Int)) × (List Int)) := unc4 fun l6677 l6680 l6681 l6683 =>
  (idx l6677 (k6684 : Int)).bind fun x6687 =>
  ((some (mgetD l65 x5598 0)).bind fun x6783 =>
  if (k6684 : Int) = x6783 then (
  some true)
  else (
  (idx l48 x5598).bind fun x6787 =>
  (some (mgetD l66 (⟨(k6684 : Int), x6787.Day⟩ : FleetAbsence) false)).bind fun x6800 =>
  some x6800)).bind (fun x6755 =>
  if x6755 = true then (
  some (l6677, l6680, l6681, l6683))
  else (
  ((mSlicesClone x6687).bind fun l6954 =>
  (room 8 (l6954.length + 1)).bind fun _ =>
  (idx l6677 (k6684 : Int)).bind fun _ =>
  some (put l6677 (k6684 : Int) (l6954 ++ [x5598]))).bind (fun l6903 =>
  ((idx l6903 (k6684 : Int)).bind fun x7121 =>
  (mFleetFits l48 x7121 (⟨x49, x50, x51, x52, x53, x54, x55⟩ : FleetLimits)).bind fun x7141 =>
  if x7141 = true then (
  (chk (x44 + 1)).bind fun _ =>
  (lim (fun N => mFleetStandIns_1_4 N (x44 + 1) l48 x49 x50 x51 x52 x53 x54 x55 l6681 l6680 l6683 l62 l6903 l65 l66)).bind (unc4 fun l7145 l7146 l7147 l7148 =>
  some (l7146, l7145, l7147, l7148)))
  else (
  some (l6903, l6680, l6681, l6683))).bind (unc4 fun l7091 l7094 l7095 l7097 =>
  (idx l7091 (k6684 : Int)).bind fun _ =>
  some (put l7091 (k6684 : Int) x6687, l7094, l7095, l7097)))))

/-- fishplate/fleet.StandIns-1 -/
noncomputable def mFleetStandIns_1 : Nat → (Int) → ((List FleetShift)) → (Int) → (Int) → (Int) → (Int) → (Int) → (Int) → (Int) → ((List (List Int))) → ((List Int)) → ((List Int)) → ((List Int)) → ((List (List Int))) → ((List (Int × Int))) → ((List (FleetAbsence × Bool))) → Option ((List Int) × (List (List Int)) × (List (List Int)) × (List Int))
  | 0 => fun _ _ _ _ _ _ _ _ _ _ _ _ _ _ _ _ => none
  | N + 1 => fun x44 l48 x49 x50 x51 x52 x53 x54 x55 l56 l58 l60 l62 l63 l65 l66 =>
  (if l56.isEmpty = true then (
  some false)
  else (
  some (decide ((l60.length : Int) ≤ (l58.length : Int))))).bind (fun x5511 =>
  if x5511 = true then (
  some (l58, l63, l56, l60))
  else (
  if x44 = (l62.length : Int) then (
  ((room 24 l63.length).bind fun _ =>
  (mSlicesClone l58).bind fun l5586 =>
  (some? l63).bind fun _ =>
  some (l63, l5586)).bind (unc2 fun l5562 l5564 =>
  some (l58, l63, l5562, l5564)))
  else (
  (idx l62 x44).bind fun x5598 =>
  (forS (mFleetStandIns_1_L5614 l48 l62 l65 l66 x44 x49 x50 x51 x52 x53 x54 x55 x5598) l63.length 0 (l63, l58, l56, l60)).bind (unc4 fun l6677 l6680 l6681 l6683 =>
  (room 8 (l6680.length + 1)).bind fun _ =>
  (chk (x44 + 1)).bind fun _ =>
  (lim (fun N => mFleetStandIns_1_2 N (x44 + 1) l48 x49 x50 x51 x52 x53 x54 x55 l6681 (l6680 ++ [x5598]) l6683 l62 l6677 l65 l66)).bind (unc4 fun l7202 l7203 l7204 l7205 =>
  (chk ((l7202.length : Int) - 1)).bind fun _ =>
  (cutS l7202 0 ((l7202.length : Int) - 1)).bind fun l7227 =>
  some (l7227, l7203, l7204, l7205))))))

noncomputable def mFleetStandIns_L2729 (l4 : (List FleetShift)) (k2713 : Nat) (l1752 : (List (FleetAbsence × Bool))) (x2716 : (List Int)) (k3021 : Nat) : ((List (List Int)) × (List Int) × (List (Int × Int))) → Option ((List (List Int)) × (List Int) × (List (Int × Int))) := unc3 fun l3016 l3019 l3020 =>
  (idx x2716 (k3021 : Int)).bind fun x3024 =>
  (idx l4 x3024).bind fun x3050 =>
  (some (mgetD l1752 (⟨(k2713 : Int), x3050.Day⟩ : FleetAbsence) false)).bind fun x3063 =>
  if x3063 = true then (
  (room 8 (l3019.length + 1)).bind fun _ =>
  some (l3016, l3019 ++ [x3024], mput l3020 x3024 (k2713 : Int)))
  else (
  (idx l3016 (k2713 : Int)).bind fun x3114 =>
  (room 8 (x3114.length + 1)).bind fun _ =>
  (idx l3016 (k2713 : Int)).bind fun _ =>
  some (put l3016 (k2713 : Int) (x3114 ++ [x3024]), l3019, l3020))

noncomputable def mFleetStandIns_L3200  (k3276 : Nat) : ((List (List Int))) → Option ((List (List Int))) := fun l3274 =>
  (idx l3274 (k3276 : Int)).bind fun x3279 =>
  (mSlicesSort x3279).bind fun l3300 =>
  some (put l3274 (k3276 : Int) l3300)

noncomputable def mFleetStandIns_L1804 (l4 : (List FleetShift)) (l8 : (List (List Int))) (l1752 : (List (FleetAbsence × Bool))) (k2713 : Nat) : ((List (List Int)) × (List Int) × (List (Int × Int))) → Option ((List (List Int)) × (List Int) × (List (Int × Int))) := unc3 fun l2708 l2711 l2712 =>
  (idx l8 (k2713 : Int)).bind fun x2716 =>
  (forS (mFleetStandIns_L2729 l4 k2713 l1752 x2716) x2716.length 0 (l2708, l2711, l2712)).bind (unc3 fun l3016 l3019 l3020 =>
  some (l3016, l3019, l3020))

noncomputable def mFleetStandIns_L1679 (l8 : (List (List Int))) (l13 : (List FleetAbsence)) (k1753 : Nat) : ((List (FleetAbsence × Bool))) → Option (((List (FleetAbsence × Bool))) ⊕ (Int × (List (List Int)) × (List Int))) := fun l1752 =>
  (idx l13 (k1753 : Int)).bind fun x1757 =>
  ((chk ((l8.length : Int) - 1)).bind fun _ =>
  (mFleetWithin x1757.Driver 0 ((l8.length : Int) - 1)).bind fun x1779 =>
  if x1779 = true then (
  (mFleetWithin x1757.Day 0 6).bind fun x1782 =>
  some (!x1782))
  else (
  some true)).bind (fun x1776 =>
  if x1776 = true then (
  some (.inr (2, [], [])))
  else (
  some (.inl (mput l1752 x1757 true))))

/-- fishplate/fleet.StandIns -/
noncomputable def mFleetStandIns (l4 : (List FleetShift)) (l8 : (List (List Int))) (s9 : FleetLimits) (l13 : (List FleetAbsence)) : Option (Int × (List (List Int)) × (List Int)) :=
  (mFleetJudgeRoster l4 l8 s9).bind (unc2 fun x1670 x1671 =>
  if x1671 ≠ 0 then (
  some (x1671, [], []))
  else (
  if x1670 ≠ 0 then (
  some (1, [], []))
  else (
  (forM (mFleetStandIns_L1679 l8 l13) l13.length 0 (([] : (List (FleetAbsence × Bool))) : (List (FleetAbsence × Bool)))).bind fun t => Sum.elim (fun l1752 =>
  (mkLen 24 (l8.length : Int)).bind fun m1790 =>
  (some? (List.replicate m1790 (([] : List Int) : (List Int)))).bind fun _ =>
  (forS (mFleetStandIns_L1804 l4 l8 l1752) l8.length 0 ((List.replicate m1790 (([] : List Int) : (List Int)), [], ([] : (List (Int × Int)))) : (List (List Int)) × (List Int) × (List (Int × Int)))).bind (unc3 fun l2708 l2711 l2712 =>
  (mSlicesSort l2711).bind fun l3152 =>
  (lim (fun N => mFleetStandIns_1 N 0 l4 s9.Change s9.Long s9.Work s9.After s9.Break s9.Rest s9.Row [] [] [] l3152 l2708 l2712 l1752)).bind (unc4 fun _ _ l3171 l3172 =>
  (apart? l3171).bind fun _ =>
  (forS mFleetStandIns_L3200 l3171.length 0 l3171).bind (fun l3274 =>
  some (0, l3274, l3172))))) (fun q => some q) t)))

/-- math/bits.Mul64 -/
noncomputable def mBitsMul64 (x1 : Int) (x2 : Int) : Option (Int × Int) :=
  (shN 32).bind fun _ =>
  (shN 32).bind fun _ =>
  (shN 32).bind fun _ =>
  (shN 32).bind fun _ =>
  (shN 32).bind fun _ =>
  some (IntKind.wrap .u64 ((IntKind.wrap .u64 ((IntKind.wrap .u64 ((shrI .u64 x1 32) * (shrI .u64 x2 32))) + (shrI .u64 (IntKind.wrap .u64 ((IntKind.wrap .u64 ((shrI .u64 x1 32) * (andI .u64 x2 4294967295))) + (shrI .u64 (IntKind.wrap .u64 ((andI .u64 x1 4294967295) * (andI .u64 x2 4294967295))) 32))) 32))) + (shrI .u64 (IntKind.wrap .u64 ((andI .u64 (IntKind.wrap .u64 ((IntKind.wrap .u64 ((shrI .u64 x1 32) * (andI .u64 x2 4294967295))) + (shrI .u64 (IntKind.wrap .u64 ((andI .u64 x1 4294967295) * (andI .u64 x2 4294967295))) 32))) 4294967295) + (IntKind.wrap .u64 ((andI .u64 x1 4294967295) * (shrI .u64 x2 32))))) 32)), IntKind.wrap .u64 (x1 * x2))

/-- math/bits.Mul -/
noncomputable def mBitsMul (x1 : Int) (x2 : Int) : Option (Int × Int) :=
  (mBitsMul64 x1 x2).bind (unc2 fun x8 x9 =>
  some (x8, x9))

noncomputable def mSlicesRepeat_L612  : (Int × (List Int)) → Option ((Int × (List Int)) ⊕ ((List Int))) := unc2 fun x734 l735 =>
  if x734 < (l735.length : Int) then (
  (cutS l735 x734 (l735.length : Int)).bind fun _ =>
  (cutS l735 0 x734).bind fun l775 =>
  (chk (x734 + (cpyN x734 (l735.length : Int) l775))).bind fun _ =>
  some (.inl (x734 + (cpyN x734 (l735.length : Int) l775), cpyI l735 x734 (l735.length : Int) l775)))
  else (
  some (.inr l735))

/-- slices.Repeat[[]int,int] -/
noncomputable def mSlicesRepeat (l4 : (List Int)) (x5 : Int) : Option ((List Int)) :=
  if x5 < 0 then (
  none)
  else (
  (mBitsMul (IntKind.wrap .u64 (l4.length : Int)) (IntKind.wrap .u64 x5)).bind (unc2 fun x403 x404 =>
  (if 0 < x403 then (
  some true)
  else (
  some (decide (9223372036854775807 < x404)))).bind (fun x409 =>
  if x409 = true then (
  none)
  else (
  (mkLen 8 (IntKind.wrap .i64 x404)).bind fun m413 =>
  (loopM mSlicesRepeat_L612 (cpyN 0 ((List.replicate m413 (0 : Int)).length : Int) l4, cpyI (List.replicate m413 (0 : Int)) 0 ((List.replicate m413 (0 : Int)).length : Int) l4)).bind (fun l609 =>
  some l609)))))

noncomputable def mSlicesIndex_2_L61 (l4 : (List FleetAbsence)) (s5 : FleetAbsence) (k86 : Nat) : (Unit) → Option ((Unit) ⊕ (Int)) := fun _ =>
  (idx l4 (k86 : Int)).bind fun x100 =>
  if s5.Driver = x100.Driver ∧ s5.Day = x100.Day then (
  some (.inr (k86 : Int)))
  else (
  some (.inl ()))

/-- slices.Index[[]fishplate/fleet.Absence,fishplate/fleet.Absence] -/
noncomputable def mSlicesIndex_2 (l4 : (List FleetAbsence)) (s5 : FleetAbsence) : Option (Int) :=
  (forM (mSlicesIndex_2_L61 l4 s5) l4.length 0 ()).bind fun t => Sum.elim (fun _ =>
  some (-1)) (fun q => some q) t

/-- slices.Contains[[]fishplate/fleet.Absence,fishplate/fleet.Absence] -/
noncomputable def mSlicesContains_2 (l4 : (List FleetAbsence)) (s5 : FleetAbsence) : Option (Bool) :=
  (mSlicesIndex_2 l4 s5).bind fun x11 =>
  some (decide (0 ≤ x11))

noncomputable def mSlicesIndex_3_L39 (l4 : (List Int)) (x5 : Int) (k54 : Nat) : (Unit) → Option ((Unit) ⊕ (Int)) := fun _ =>
  (idx l4 (k54 : Int)).bind fun x58 =>
  if x5 = x58 then (
  some (.inr (k54 : Int)))
  else (
  some (.inl ()))

/-- slices.Index[[]int,int] -/
noncomputable def mSlicesIndex_3 (l4 : (List Int)) (x5 : Int) : Option (Int) :=
  (forM (mSlicesIndex_3_L39 l4 x5) l4.length 0 ()).bind fun t => Sum.elim (fun _ =>
  some (-1)) (fun q => some q) t

/-- slices.Contains[[]int,int] -/
noncomputable def mSlicesContains_3 (l4 : (List Int)) (x5 : Int) : Option (Bool) :=
  (mSlicesIndex_3 l4 x5).bind fun x9 =>
  some (decide (0 ≤ x9))

noncomputable def mFleetJudge_2_L99 (l4 : (List FleetTask)) (l8 : (List Int)) (k135 : Nat) : (Unit) → Option ((Unit) ⊕ (Int × Int)) := fun _ =>
  (idx l8 (k135 : Int)).bind fun x139 =>
  (chk ((l4.length : Int) - 1)).bind fun _ =>
  (mFleetWithin x139 0 ((l4.length : Int) - 1)).bind fun x150 =>
  if x150 = true then (
  (cutS l8 0 (k135 : Int)).bind fun l154 =>
  (mSlicesContains_3 l154 x139).bind fun x169 =>
  if x169 = true then (
  some (.inr (0, 6)))
  else (
  some (.inl ())))
  else (
  some (.inr (0, 2)))

/-- fishplate/fleet.Judge -/
noncomputable def mFleetJudge_2 (l4 : (List FleetTask)) (l8 : (List Int)) (s9 : FleetLimits) : Option (Int × Int) :=
  (mFleetCheckTasks_2 l4 s9).bind fun x95 =>
  if x95 ≠ 0 then (
  some (0, x95))
  else (
  if (l8.length : Int) = 0 then (
  some (0, 1))
  else (
  (forM (mFleetJudge_2_L99 l4 l8) l8.length 0 ()).bind fun t => Sum.elim (fun _ =>
  (mFleetJudge l4 l8 s9).bind fun x174 =>
  some (x174, 0)) (fun q => some q) t))

noncomputable def mFishtopTopCrewed_L4155 (x4138 : ApiTrain) (k4363 : Nat) : ((List FleetTask)) → Option ((List FleetTask)) := fun l4362 =>
  (idx x4138.Stops (k4363 : Int)).bind fun x4414 =>
  (chk ((k4363 : Int) + 1)).bind fun _ =>
  (idx x4138.Stops ((k4363 : Int) + 1)).bind fun x4425 =>
  (idx x4138.Stops (k4363 : Int)).bind fun x4435 =>
  (chk ((k4363 : Int) + 1)).bind fun _ =>
  (idx x4138.Stops ((k4363 : Int) + 1)).bind fun x4446 =>
  (room 48 (l4362.length + 1)).bind fun _ =>
  some (l4362 ++ [(⟨x4414.Station, x4425.Station, x4435.Dep, x4446.Arr, 0, 1⟩ : FleetTask)])

noncomputable def mFishtopTopCrewed_L5296 (k5293 : Nat) (l4134 : (List FleetTask)) (l4467 : (List (List Int))) (k5540 : Nat) : ((List FleetShift)) → Option ((List FleetShift)) := fun l5539 =>
  (idx l4467 (k5540 : Int)).bind fun x5543 =>
  if (l5539.length : Int) < 8 then (
  (idx x5543 0).bind fun x5610 =>
  (idx l4134 x5610).bind fun x5620 =>
  (chk ((x5543.length : Int) - 1)).bind fun _ =>
  (idx x5543 ((x5543.length : Int) - 1)).bind fun x5631 =>
  (idx l4134 x5631).bind fun x5641 =>
  (room 24 (l5539.length + 1)).bind fun _ =>
  some (l5539 ++ [(⟨(k5293 : Int), x5620.Dep, x5641.Arr⟩ : FleetShift)]))
  else (
  some l5539)

noncomputable def mFishtopTopCrewed_L6378 (l13 : (List FleetAbsence)) (k6361 : Nat) (l5292 : (List FleetShift)) (x6365 : (List Int)) (k6584 : Nat) : ((List Int)) → Option (((List Int)) ⊕ (((List Int)) ⊕ (Bool))) := fun l6583 =>
  (idx x6365 (k6584 : Int)).bind fun x6588 =>
  (if x6588 < 0 then (
  some true)
  else (
  if (l6583.length : Int) ≤ x6588 then (
  some true)
  else (
  (idx l6583 x6588).bind fun x6635 =>
  if 0 ≤ x6635 then (
  some true)
  else (
  (idx l5292 x6588).bind fun x6652 =>
  (mSlicesContains_2 l13 (⟨(k6361 : Int), x6652.Day⟩ : FleetAbsence)).bind fun x6662 =>
  some x6662)))).bind (fun x6631 =>
  if x6631 = true then (
  some (.inr (.inr false)))
  else (
  (idx l6583 x6588).bind fun _ =>
  some (.inl (put l6583 x6588 (k6361 : Int)))))

noncomputable def mFishtopTopCrewed_L6687 (s8 : FleetLimits) (l4134 : (List FleetTask)) (l4467 : (List (List Int))) (l5292 : (List FleetShift)) (l5677 : (List Int)) (l6360 : (List Int)) (k6794 : Nat) : (Unit) → Option ((Unit) ⊕ (Bool)) := fun _ =>
  (idx l5292 (k6794 : Int)).bind fun x6798 =>
  (idx l6360 (k6794 : Int)).bind fun x6827 =>
  (mSlicesContains_3 l5677 (k6794 : Int)).bind fun x6843 =>
  if (decide ((decide (x6827 < 0)) ≠ x6843)) = true then (
  some (.inr false))
  else (
  (chk (x6798.End - x6798.Start)).bind fun _ =>
  if s8.Long < (x6798.End - x6798.Start) then (
  some (.inr false))
  else (
  (ne0 (l4467.length : Int)).bind fun _ =>
  (idx l4467 (Int.tmod (k6794 : Int) (l4467.length : Int))).bind fun x6874 =>
  (mFleetJudge_2 l4134 x6874 s8).bind (unc2 fun x6893 x6894 =>
  (if x6893 ≠ 0 then (
  some true)
  else (
  some (decide (x6894 ≠ 0)))).bind (fun x6899 =>
  if x6899 = true then (
  some (.inr false))
  else (
  some (.inl ()))))))

noncomputable def mFishtopTopCrewed_L5707 (l13 : (List FleetAbsence)) (l5292 : (List FleetShift)) (l5676 : (List (List Int))) (k6361 : Nat) : ((List Int)) → Option (((List Int)) ⊕ (Bool)) := fun l6360 =>
  (idx l5676 (k6361 : Int)).bind fun x6365 =>
  (forM (mFishtopTopCrewed_L6378 l13 k6361 l5292 x6365) x6365.length 0 l6360).bind fun t => Sum.elim (fun l6583 =>
  some (.inl l6583)) (fun q => some q) t

noncomputable def mFishtopTopCrewed_L4554 (l4134 : (List FleetTask)) (l4467 : (List (List Int))) (k5293 : Nat) : ((List FleetShift)) → Option ((List FleetShift)) := fun l5292 =>
  (forS (mFishtopTopCrewed_L5296 k5293 l4134 l4467) l4467.length 0 l5292).bind (fun l5539 =>
  some l5539)

noncomputable def mFishtopTopCrewed_L4476 (l4134 : (List FleetTask)) (l4467 : (List (List Int))) (k4514 : Nat) : (Unit) → Option ((Unit) ⊕ (Bool)) := fun _ =>
  (idx l4467 (k4514 : Int)).bind fun x4518 =>
  (if (x4518.length : Int) = 0 then (
  some true)
  else (
  (mSlicesContainsFunc x4518 l4134).bind fun x4547 =>
  some x4547)).bind (fun x4544 =>
  if x4544 = true then (
  some (.inr false))
  else (
  some (.inl ())))

noncomputable def mFishtopTopCrewed_L3469 (s1 : ApiDay) (k4135 : Nat) : ((List FleetTask)) → Option ((List FleetTask)) := fun l4134 =>
  (idx s1.Trains (k4135 : Int)).bind fun x4138 =>
  (forS (mFishtopTopCrewed_L4155 x4138) x4138.Legs.length 0 l4134).bind (fun l4362 =>
  some l4362)

/-- fishplate/fishtop.TopCrewed -/
noncomputable def mFishtopTopCrewed (s1 : ApiDay) (s8 : FleetLimits) (x9 : Int) (l13 : (List FleetAbsence)) : Option (Bool) :=
  (mFishtopAwakeFleet).bind fun x3462 =>
  if x3462 = true then (
  (mFishref2GuideFault s1).bind fun x3465 =>
  if x3465 ≠ 0 then (
  some true)
  else (
  (forS (mFishtopTopCrewed_L3469 s1) s1.Trains.length 0 ([] : (List FleetTask))).bind (fun l4134 =>
  (mFleetDuties l4134 s8).bind (unc2 fun x4466 l4467 =>
  if x4466 ≠ 0 then (
  some (decide ((l4467.length : Int) = 0)))
  else (
  (forM (mFishtopTopCrewed_L4476 l4134 l4467) l4467.length 0 ()).bind fun t => Sum.elim (fun _ =>
  (forS (mFishtopTopCrewed_L4554 l4134 l4467) 2 0 ([] : (List FleetShift))).bind (fun l5292 =>
  (mFleetRoster l5292 x9 s8).bind (unc2 fun x5661 l5662 =>
  if x5661 ≠ 0 then (
  some (decide ((l5662.length : Int) = 0)))
  else (
  (mFleetStandIns l5292 l5662 s8 l13).bind (unc3 fun x5675 l5676 l5677 =>
  if x5675 ≠ 0 then (
  (chk ((l5676.length : Int) + (l5677.length : Int))).bind fun _ =>
  some (decide (((l5676.length : Int) + (l5677.length : Int)) = 0)))
  else (
  (mSlicesRepeat [(-1)] (l5292.length : Int)).bind fun l5699 =>
  (forM (mFishtopTopCrewed_L5707 l13 l5292 l5676) l5676.length 0 l5699).bind fun t => Sum.elim (fun l6360 =>
  (forM (mFishtopTopCrewed_L6687 s8 l4134 l4467 l5292 l5677 l6360) l5292.length 0 ()).bind fun t => Sum.elim (fun _ =>
  some true) (fun q => some q) t) (fun q => some q) t)))))) (fun q => some q) t)))))
  else (
  some false)

end Go.Proofs.Ytnmhabgnfifkdaa
