/- The models of the functions, as the extractor printed them. -/
import Derived.Test.YtajmocgpjkhjlaaX9
set_option linter.unusedVariables false
set_option linter.unusedSimpArgs false
namespace Go.Proofs.Ytajmocgpjkhjlaa
open Go.RowKit Go.Fp

structure FleetTask where
  From : Int
  To : Int
  Dep : Int
  Arr : Int
  Km : Int
  Units : Int
  deriving DecidableEq
def rFleetTask : RT FleetTask := (RT.cat (RT.on (RT.int .i64) FleetTask.From) (RT.cat (RT.on (RT.int .i64) FleetTask.To) (RT.cat (RT.on (RT.int .i64) FleetTask.Dep) (RT.cat (RT.on (RT.int .i64) FleetTask.Arr) (RT.cat (RT.on (RT.int .i64) FleetTask.Km) (RT.on (RT.int .i64) FleetTask.Units))))))
structure FleetLimits where
  Change : Int
  Long : Int
  Work : Int
  After : Int
  Break : Int
  Rest : Int
  Row : Int
  deriving DecidableEq
def rFleetLimits : RT FleetLimits := (RT.cat (RT.on (RT.int .i64) FleetLimits.Change) (RT.cat (RT.on (RT.int .i64) FleetLimits.Long) (RT.cat (RT.on (RT.int .i64) FleetLimits.Work) (RT.cat (RT.on (RT.int .i64) FleetLimits.After) (RT.cat (RT.on (RT.int .i64) FleetLimits.Break) (RT.cat (RT.on (RT.int .i64) FleetLimits.Rest) (RT.on (RT.int .i64) FleetLimits.Row)))))))

/-- fishplate/fleet.within -/
noncomputable def mFleetWithin (x1 : Int) (x2 : Int) (x3 : Int) : Option (Bool) :=
  (if x2 ≤ x1 then (
  some (decide (x1 ≤ x3)))
  else (
  some false)).bind (fun x14 =>
  some x14)

noncomputable def mFleetCheckTasks_L128 (l4 : (List FleetTask)) (k186 : Nat) : (Unit) → Option ((Unit) ⊕ (Int)) := fun _ =>
  (idx l4 (k186 : Int)).bind fun x190 =>
  ((mFleetWithin x190.From 0 11).bind fun x216 =>
  if x216 = true then (
  (mFleetWithin x190.To 0 11).bind fun x219 =>
  if x219 = true then (
  (mFleetWithin x190.Dep 0 28800).bind fun x222 =>
  if x222 = true then (
  (mFleetWithin x190.Arr 0 28800).bind fun x225 =>
  some (!x225))
  else (
  some true))
  else (
  some true))
  else (
  some true)).bind (fun x214 =>
  if x214 = true then (
  some (.inr 2))
  else (
  if x190.Arr ≤ x190.Dep then (
  some (.inr 13))
  else (
  ((mFleetWithin x190.Km 0 10000).bind fun x240 =>
  if x240 = true then (
  (mFleetWithin x190.Units 1 4).bind fun x243 =>
  some (!x243))
  else (
  some true)).bind (fun x238 =>
  if x238 = true then (
  some (.inr 2))
  else (
  some (.inl ()))))))

/-- fishplate/fleet.CheckTasks -/
noncomputable def mFleetCheckTasks (l4 : (List FleetTask)) : Option (Int) :=
  if 40 < (l4.length : Int) then (
  some 4)
  else (
  (forM (mFleetCheckTasks_L128 l4) l4.length 0 ()).bind fun t => Sum.elim (fun _ =>
  some 0) (fun q => some q) t)

/-- fishplate/fleet.checkTurn -/
noncomputable def mFleetCheckTurn (l4 : (List FleetTask)) (x5 : Int) : Option (Int) :=
  (mFleetCheckTasks l4).bind fun x13 =>
  if x13 ≠ 0 then (
  some x13)
  else (
  (mFleetWithin x5 0 28800).bind fun x16 =>
  if x16 = true then (
  some 0)
  else (
  some 2))

/-- cmp.isNaN[int] -/
noncomputable def mCmpIsNaN (x1 : Int) : Option (Bool) :=
  some (decide (x1 ≠ x1))

/-- cmp.Compare[int] -/
noncomputable def mCmpCompare (x1 : Int) (x2 : Int) : Option (Int) :=
  (mCmpIsNaN x1).bind fun x13 =>
  (mCmpIsNaN x2).bind fun x15 =>
  if x13 = true then (
  if x15 = true then (
  some 0)
  else (
  some (-1)))
  else (
  if x15 = true then (
  some 1)
  else (
  if x1 < x2 then (
  some (-1))
  else (
  if x2 < x1 then (
  some 1)
  else (
  some 0))))

/-- fishplate/fleet.order-1 -/
noncomputable def mFleetOrder_1 (x2 : Int) (x3 : Int) (l7 : (List FleetTask)) : Option (Int) :=
  (idx l7 x2).bind fun x75 =>
  (idx l7 x3).bind fun x85 =>
  (mCmpCompare x75.Dep x85.Dep).bind fun x95 =>
  some x95

noncomputable def mSlicesInsertionSortCmpFunc_L10142 (x7 : Int) (l12 : (List FleetTask)) : (Int × (List Int)) → Option ((Int × (List Int)) ⊕ ((List Int))) := unc2 fun x10752 l10753 =>
  (if x7 < x10752 then (
  (idx l10753 x10752).bind fun x10874 =>
  (chk (x10752 - 1)).bind fun _ =>
  (idx l10753 (x10752 - 1)).bind fun x10891 =>
  (mFleetOrder_1 x10874 x10891 l12).bind fun x10907 =>
  some (decide (x10907 < 0)))
  else (
  some false)).bind (fun x10833 =>
  if x10833 = true then (
  (chk (x10752 - 1)).bind fun _ =>
  (chk (x10752 - 1)).bind fun _ =>
  (idx l10753 (x10752 - 1)).bind fun x10984 =>
  (idx l10753 x10752).bind fun x11000 =>
  (idx l10753 x10752).bind fun _ =>
  (idx (put l10753 x10752 x10984) (x10752 - 1)).bind fun _ =>
  (chk (x10752 - 1)).bind fun _ =>
  some (.inl (x10752 - 1, put (put l10753 x10752 x10984) (x10752 - 1) x11000)))
  else (
  some (.inr l10753)))

noncomputable def mSlicesInsertionSortCmpFunc_L5538 (x7 : Int) (x8 : Int) (l12 : (List FleetTask)) : (Int × (List Int)) → Option ((Int × (List Int)) ⊕ ((List Int))) := unc2 fun x9218 l9219 =>
  if x9218 < x8 then (
  (loopM (mSlicesInsertionSortCmpFunc_L10142 x7 l12) (x9218, l9219)).bind (fun l10139 =>
  (chk (x9218 + 1)).bind fun _ =>
  some (.inl (x9218 + 1, l10139))))
  else (
  some (.inr l9219))

/-- slices.insertionSortCmpFunc[int] -/
noncomputable def mSlicesInsertionSortCmpFunc (x7 : Int) (x8 : Int) (l12 : (List FleetTask)) (l13 : (List Int)) : Option ((List Int)) :=
  (chk (x7 + 1)).bind fun _ =>
  loopM (mSlicesInsertionSortCmpFunc_L5538 x7 x8 l12) (x7 + 1, l13)

noncomputable def mSlicesSwapRangeCmpFunc_L476 (x7 : Int) (x8 : Int) (x9 : Int) : (Int × (List Int)) → Option ((Int × (List Int)) ⊕ ((List Int))) := unc2 fun x782 l783 =>
  if x782 < x9 then (
  (chk (x7 + x782)).bind fun _ =>
  (chk (x8 + x782)).bind fun _ =>
  (chk (x8 + x782)).bind fun _ =>
  (idx l783 (x8 + x782)).bind fun x861 =>
  (chk (x7 + x782)).bind fun _ =>
  (idx l783 (x7 + x782)).bind fun x878 =>
  (idx l783 (x7 + x782)).bind fun _ =>
  (idx (put l783 (x7 + x782) x861) (x8 + x782)).bind fun _ =>
  (chk (x782 + 1)).bind fun _ =>
  some (.inl (x782 + 1, put (put l783 (x7 + x782) x861) (x8 + x782) x878)))
  else (
  some (.inr l783))

/-- slices.swapRangeCmpFunc[int] -/
noncomputable def mSlicesSwapRangeCmpFunc (x7 : Int) (x8 : Int) (x9 : Int) (_l13 : (List FleetTask)) (l14 : (List Int)) : Option ((List Int)) :=
  loopM (mSlicesSwapRangeCmpFunc_L476 x7 x8 x9) (0, l14)

noncomputable def mSlicesRotateCmpFunc_L299 (x8 : Int) (l13 : (List FleetTask)) : (Int × Int × (List Int)) → Option ((Int × Int × (List Int)) ⊕ (Int × (List Int))) := unc3 fun x356 x357 l358 =>
  if x356 ≠ x357 then (
  if x357 < x356 then (
  (chk (x8 - x356)).bind fun _ =>
  (mSlicesSwapRangeCmpFunc (x8 - x356) x8 x357 l13 l358).bind fun l363 =>
  (chk (x356 - x357)).bind fun _ =>
  some (.inl (x356 - x357, x357, l363)))
  else (
  (chk (x8 - x356)).bind fun _ =>
  (chk (x8 + x357)).bind fun _ =>
  (chk ((x8 + x357) - x356)).bind fun _ =>
  (mSlicesSwapRangeCmpFunc (x8 - x356) ((x8 + x357) - x356) x356 l13 l358).bind fun l374 =>
  (chk (x357 - x356)).bind fun _ =>
  some (.inl (x356, x357 - x356, l374))))
  else (
  some (.inr (x356, l358)))

/-- slices.rotateCmpFunc[int] -/
noncomputable def mSlicesRotateCmpFunc (x7 : Int) (x8 : Int) (x9 : Int) (l13 : (List FleetTask)) (l14 : (List Int)) : Option ((List Int)) :=
  (chk (x8 - x7)).bind fun _ =>
  (chk (x9 - x8)).bind fun _ =>
  (loopM (mSlicesRotateCmpFunc_L299 x8 l13) (x8 - x7, x9 - x8, l14)).bind (unc2 fun x295 l296 =>
  (chk (x8 - x295)).bind fun _ =>
  (mSlicesSwapRangeCmpFunc (x8 - x295) x8 x295 l13 l296).bind fun l383 =>
  some l383)

noncomputable def mSlicesSymMergeCmpFunc_L6951 (x7 : Int) (l13 : (List FleetTask)) (l14 : (List Int)) : (Int × Int) → Option ((Int × Int) ⊕ (Int)) := unc2 fun x7110 x7111 =>
  if x7110 < x7111 then (
  (chk (x7110 + x7111)).bind fun _ =>
  (shN 1).bind fun _ =>
  (idx l14 (IntKind.wrap .i64 (shrI .u64 (IntKind.wrap .u64 (x7110 + x7111)) 1))).bind fun x7151 =>
  (idx l14 x7).bind fun x7167 =>
  (mFleetOrder_1 x7151 x7167 l13).bind fun x7183 =>
  if x7183 < 0 then (
  (chk ((IntKind.wrap .i64 (shrI .u64 (IntKind.wrap .u64 (x7110 + x7111)) 1)) + 1)).bind fun _ =>
  some (.inl ((IntKind.wrap .i64 (shrI .u64 (IntKind.wrap .u64 (x7110 + x7111)) 1)) + 1, x7111)))
  else (
  some (.inl (x7110, IntKind.wrap .i64 (shrI .u64 (IntKind.wrap .u64 (x7110 + x7111)) 1)))))
  else (
  some (.inr x7110))

noncomputable def mSlicesSymMergeCmpFunc_L7644 (x6949 : Int) : (Int × (List Int)) → Option ((Int × (List Int)) ⊕ ((List Int))) := unc2 fun x7944 l7945 =>
  (chk (x6949 - 1)).bind fun _ =>
  if x7944 < (x6949 - 1) then (
  (chk (x7944 + 1)).bind fun _ =>
  (chk (x7944 + 1)).bind fun _ =>
  (idx l7945 (x7944 + 1)).bind fun x8021 =>
  (idx l7945 x7944).bind fun x8037 =>
  (idx l7945 x7944).bind fun _ =>
  (idx (put l7945 x7944 x8021) (x7944 + 1)).bind fun _ =>
  (chk (x7944 + 1)).bind fun _ =>
  some (.inl (x7944 + 1, put (put l7945 x7944 x8021) (x7944 + 1) x8037)))
  else (
  some (.inr l7945))

noncomputable def mSlicesSymMergeCmpFunc_L8335 (x8 : Int) (l13 : (List FleetTask)) (l14 : (List Int)) : (Int × Int) → Option ((Int × Int) ⊕ (Int)) := unc2 fun x8494 x8495 =>
  if x8494 < x8495 then (
  (chk (x8494 + x8495)).bind fun _ =>
  (shN 1).bind fun _ =>
  (idx l14 x8).bind fun x8535 =>
  (idx l14 (IntKind.wrap .i64 (shrI .u64 (IntKind.wrap .u64 (x8494 + x8495)) 1))).bind fun x8551 =>
  (mFleetOrder_1 x8535 x8551 l13).bind fun x8567 =>
  if x8567 < 0 then (
  some (.inl (x8494, IntKind.wrap .i64 (shrI .u64 (IntKind.wrap .u64 (x8494 + x8495)) 1))))
  else (
  (chk ((IntKind.wrap .i64 (shrI .u64 (IntKind.wrap .u64 (x8494 + x8495)) 1)) + 1)).bind fun _ =>
  some (.inl ((IntKind.wrap .i64 (shrI .u64 (IntKind.wrap .u64 (x8494 + x8495)) 1)) + 1, x8495))))
  else (
  some (.inr x8494))

noncomputable def mSlicesSymMergeCmpFunc_L9025 (x8333 : Int) : (Int × (List Int)) → Option ((Int × (List Int)) ⊕ ((List Int))) := unc2 fun x9323 l9324 =>
  if x8333 < x9323 then (
  (chk (x9323 - 1)).bind fun _ =>
  (chk (x9323 - 1)).bind fun _ =>
  (idx l9324 (x9323 - 1)).bind fun x9399 =>
  (idx l9324 x9323).bind fun x9415 =>
  (idx l9324 x9323).bind fun _ =>
  (idx (put l9324 x9323 x9399) (x9323 - 1)).bind fun _ =>
  (chk (x9323 - 1)).bind fun _ =>
  some (.inl (x9323 - 1, put (put l9324 x9323 x9399) (x9323 - 1) x9415)))
  else (
  some (.inr l9324))

noncomputable def mSlicesSymMergeCmpFunc_L9730 (x7 : Int) (x8 : Int) (x9 : Int) (l13 : (List FleetTask)) (l14 : (List Int)) : (Int × Int) → Option ((Int × Int) ⊕ (Int)) := unc2 fun x9893 x9894 =>
  if x9893 < x9894 then (
  (chk (x9893 + x9894)).bind fun _ =>
  (shN 1).bind fun _ =>
  (chk ((((IntKind.wrap .i64 (shrI .u64 (IntKind.wrap .u64 (x7 + x9)) 1)) + x8) - 1) - (IntKind.wrap .i64 (shrI .u64 (IntKind.wrap .u64 (x9893 + x9894)) 1)))).bind fun _ =>
  (idx l14 ((((IntKind.wrap .i64 (shrI .u64 (IntKind.wrap .u64 (x7 + x9)) 1)) + x8) - 1) - (IntKind.wrap .i64 (shrI .u64 (IntKind.wrap .u64 (x9893 + x9894)) 1)))).bind fun x9936 =>
  (idx l14 (IntKind.wrap .i64 (shrI .u64 (IntKind.wrap .u64 (x9893 + x9894)) 1))).bind fun x9952 =>
  (mFleetOrder_1 x9936 x9952 l13).bind fun x9968 =>
  if x9968 < 0 then (
  some (.inl (x9893, IntKind.wrap .i64 (shrI .u64 (IntKind.wrap .u64 (x9893 + x9894)) 1))))
  else (
  (chk ((IntKind.wrap .i64 (shrI .u64 (IntKind.wrap .u64 (x9893 + x9894)) 1)) + 1)).bind fun _ =>
  some (.inl ((IntKind.wrap .i64 (shrI .u64 (IntKind.wrap .u64 (x9893 + x9894)) 1)) + 1, x9894))))
  else (
  some (.inr x9893))

/-- slices.symMergeCmpFunc[int] -/
noncomputable def mSlicesSymMergeCmpFunc : Nat → (Int) → (Int) → (Int) → ((List FleetTask)) → ((List Int)) → Option ((List Int))
  | 0 => fun _ _ _ _ _ => none
  | N + 1 => fun x7 x8 x9 l13 l14 =>
  (chk (x8 - x7)).bind fun _ =>
  if (x8 - x7) = 1 then (
  (loopM (mSlicesSymMergeCmpFunc_L6951 x7 l13 l14) (x8, x9)).bind (fun x6949 =>
  (loopM (mSlicesSymMergeCmpFunc_L7644 x6949) (x7, l14)).bind (fun l7641 =>
  some l7641)))
  else (
  (chk (x9 - x8)).bind fun _ =>
  if (x9 - x8) = 1 then (
  (loopM (mSlicesSymMergeCmpFunc_L8335 x8 l13 l14) (x7, x8)).bind (fun x8333 =>
  (loopM (mSlicesSymMergeCmpFunc_L9025 x8333) (x8, l14)).bind (fun l9022 =>
  some l9022)))
  else (
  (chk (x7 + x9)).bind fun _ =>
  (shN 1).bind fun _ =>
  (chk ((IntKind.wrap .i64 (shrI .u64 (IntKind.wrap .u64 (x7 + x9)) 1)) + x8)).bind fun _ =>
  (if (IntKind.wrap .i64 (shrI .u64 (IntKind.wrap .u64 (x7 + x9)) 1)) < x8 then (
  (chk (((IntKind.wrap .i64 (shrI .u64 (IntKind.wrap .u64 (x7 + x9)) 1)) + x8) - x9)).bind fun _ =>
  some (((IntKind.wrap .i64 (shrI .u64 (IntKind.wrap .u64 (x7 + x9)) 1)) + x8) - x9, IntKind.wrap .i64 (shrI .u64 (IntKind.wrap .u64 (x7 + x9)) 1)))
  else (
  some (x7, x8))).bind (unc2 fun x9476 x9477 =>
  (chk (((IntKind.wrap .i64 (shrI .u64 (IntKind.wrap .u64 (x7 + x9)) 1)) + x8) - 1)).bind fun _ =>
  (loopM (mSlicesSymMergeCmpFunc_L9730 x7 x8 x9 l13 l14) (x9476, x9477)).bind (fun x9728 =>
  (chk (((IntKind.wrap .i64 (shrI .u64 (IntKind.wrap .u64 (x7 + x9)) 1)) + x8) - x9728)).bind fun _ =>
  ((if x9728 < x8 then (
  some (decide (x8 < (((IntKind.wrap .i64 (shrI .u64 (IntKind.wrap .u64 (x7 + x9)) 1)) + x8) - x9728))))
  else (
  some false)).bind (fun x10000 =>
  if x10000 = true then (
  (mSlicesRotateCmpFunc x9728 x8 (((IntKind.wrap .i64 (shrI .u64 (IntKind.wrap .u64 (x7 + x9)) 1)) + x8) - x9728) l13 l14).bind fun l10004 =>
  some l10004)
  else (
  some l14))).bind (fun l9994 =>
  ((if x7 < x9728 then (
  some (decide (x9728 < (IntKind.wrap .i64 (shrI .u64 (IntKind.wrap .u64 (x7 + x9)) 1)))))
  else (
  some false)).bind (fun x10036 =>
  if x10036 = true then (
  ((mSlicesSymMergeCmpFunc N) x7 x9728 (IntKind.wrap .i64 (shrI .u64 (IntKind.wrap .u64 (x7 + x9)) 1)) l13 l9994).bind fun l10040 =>
  some l10040)
  else (
  some l9994))).bind (fun l10030 =>
  (if (IntKind.wrap .i64 (shrI .u64 (IntKind.wrap .u64 (x7 + x9)) 1)) < (((IntKind.wrap .i64 (shrI .u64 (IntKind.wrap .u64 (x7 + x9)) 1)) + x8) - x9728) then (
  some (decide ((((IntKind.wrap .i64 (shrI .u64 (IntKind.wrap .u64 (x7 + x9)) 1)) + x8) - x9728) < x9)))
  else (
  some false)).bind (fun x10050 =>
  if x10050 = true then (
  ((mSlicesSymMergeCmpFunc N) (IntKind.wrap .i64 (shrI .u64 (IntKind.wrap .u64 (x7 + x9)) 1)) (((IntKind.wrap .i64 (shrI .u64 (IntKind.wrap .u64 (x7 + x9)) 1)) + x8) - x9728) x9 l13 l10030).bind fun l10054 =>
  some l10054)
  else (
  some l10030))))))))

noncomputable def mSlicesStableCmpFunc_L604 (x7 : Int) (l11 : (List FleetTask)) : (Int × Int × (List Int)) → Option ((Int × Int × (List Int)) ⊕ (Int × (List Int))) := unc3 fun x635 x636 l637 =>
  if x636 ≤ x7 then (
  (mSlicesInsertionSortCmpFunc x635 x636 l11 l637).bind fun l640 =>
  (chk (x636 + 20)).bind fun _ =>
  some (.inl (x636, x636 + 20, l640)))
  else (
  some (.inr (x635, l637)))

noncomputable def mSlicesStableCmpFunc_L1007 (x7 : Int) (l11 : (List FleetTask)) (x943 : Int) : (Int × Int × (List Int)) → Option ((Int × Int × (List Int)) ⊕ (Int × (List Int))) := unc3 fun x1042 x1043 l1044 =>
  if x1043 ≤ x7 then (
  (chk (x1042 + x943)).bind fun _ =>
  (lim (fun N => mSlicesSymMergeCmpFunc N x1042 (x1042 + x943) x1043 l11 l1044)).bind fun l1048 =>
  (chk (2 * x943)).bind fun _ =>
  (chk (x1043 + (2 * x943))).bind fun _ =>
  some (.inl (x1043, x1043 + (2 * x943), l1048)))
  else (
  some (.inr (x1042, l1044)))

noncomputable def mSlicesStableCmpFunc_L655 (x7 : Int) (l11 : (List FleetTask)) : (Int × (List Int)) → Option ((Int × (List Int)) ⊕ ((List Int))) := unc2 fun x943 l944 =>
  if x943 < x7 then (
  (chk (2 * x943)).bind fun _ =>
  (loopM (mSlicesStableCmpFunc_L1007 x7 l11 x943) (0, 2 * x943, l944)).bind (unc2 fun x1003 l1004 =>
  ((chk (x1003 + x943)).bind fun _ =>
  if (x1003 + x943) < x7 then (
  (lim (fun N => mSlicesSymMergeCmpFunc N x1003 (x1003 + x943) x7 l11 l1004)).bind fun l1076 =>
  some l1076)
  else (
  some l1004)).bind (fun l1071 =>
  (chk (x943 * 2)).bind fun _ =>
  some (.inl (x943 * 2, l1071)))))
  else (
  some (.inr l944))

/-- slices.stableCmpFunc[int] -/
noncomputable def mSlicesStableCmpFunc (x7 : Int) (l11 : (List FleetTask)) (l12 : (List Int)) : Option ((List Int)) :=
  (loopM (mSlicesStableCmpFunc_L604 x7 l11) (0, 20, l12)).bind (unc2 fun x600 l601 =>
  (mSlicesInsertionSortCmpFunc x600 x7 l11 l601).bind fun l648 =>
  loopM (mSlicesStableCmpFunc_L655 x7 l11) (20, l648))

/-- slices.SortStableFunc[[]int,int] -/
noncomputable def mSlicesSortStableFunc (l10 : (List FleetTask)) (l11 : (List Int)) : Option ((List Int)) :=
  (mSlicesStableCmpFunc (l11.length : Int) l10 l11).bind fun l24 =>
  some l24

noncomputable def mFleetOrder_L103  (k153 : Nat) : ((List Int)) → Option ((List Int)) := fun l151 =>
  (idx l151 (k153 : Int)).bind fun _ =>
  some (put l151 (k153 : Int) (k153 : Int))

/-- fishplate/fleet.order -/
noncomputable def mFleetOrder (l4 : (List FleetTask)) : Option ((List Int)) :=
  (mkLen 8 (l4.length : Int)).bind fun m97 =>
  (forS mFleetOrder_L103 ((List.replicate m97 (0 : Int)).length) 0 (List.replicate m97 (0 : Int))).bind (fun l151 =>
  (mSlicesSortStableFunc l4 l151).bind fun l174 =>
  some l174)

/-- fishplate/fleet.follows -/
noncomputable def mFleetFollows (s1 : FleetTask) (s2 : FleetTask) (x3 : Int) : Option (Bool) :=
  (if s2.From = s1.To then (
  (chk (s1.Arr + x3)).bind fun _ =>
  some (decide ((s1.Arr + x3) ≤ s2.Dep)))
  else (
  some false)).bind (fun x21 =>
  some x21)

noncomputable def mFleetTurns_L23978 (l4 : (List FleetTask)) (x5 : Int) (l23974 : (List (List Int))) (x21087 : Int) (k24884 : Nat) : (Int) → Option (Int) := fun x24883 =>
  (idx l23974 (k24884 : Int)).bind fun x24887 =>
  (chk ((x24887.length : Int) - 1)).bind fun _ =>
  (idx x24887 ((x24887.length : Int) - 1)).bind fun x24908 =>
  (if x24908 ≠ x21087 then (
  (idx l4 x24908).bind fun x25235 =>
  (idx l4 x21087).bind fun x25245 =>
  (mFleetFollows x25235 x25245 x5).bind fun x25255 =>
  if x25255 = true then (
  if x24883 < 0 then (
  some true)
  else (
  (idx l4 x24908).bind fun x25259 =>
  (idx l23974 x24883).bind fun x25269 =>
  (idx l23974 x24883).bind fun x25289 =>
  (chk ((x25289.length : Int) - 1)).bind fun _ =>
  (idx x25269 ((x25289.length : Int) - 1)).bind fun x25310 =>
  (idx l4 x25310).bind fun x25326 =>
  some (decide (x25259.Arr < x25326.Arr))))
  else (
  some false))
  else (
  some false)).bind (fun x25130 =>
  if x25130 = true then (
  some (k24884 : Int))
  else (
  some x24883))

noncomputable def mFleetTurns_L21113 (l4 : (List FleetTask)) (x5 : Int) (x21087 : Int) (_k23975 : Nat) : ((List (List Int))) → Option ((List (List Int))) := fun l23974 =>
  (forS (mFleetTurns_L23978 l4 x5 l23974 x21087) l23974.length 0 (-1)).bind (fun x24883 =>
  (if x24883 < 0 then (
  (room 24 (l23974.length + 1)).bind fun _ =>
  (chk (((l23974 ++ [[]]).length : Int) - 1)).bind fun _ =>
  some (((l23974 ++ [[]]).length : Int) - 1, l23974 ++ [[]]))
  else (
  some (x24883, l23974))).bind (unc2 fun x25352 l25353 =>
  (idx l25353 x25352).bind fun x25363 =>
  (room 8 (x25363.length + 1)).bind fun _ =>
  (idx l25353 x25352).bind fun _ =>
  some (put l25353 x25352 (x25363 ++ [x21087]))))

noncomputable def mFleetTurns_L12718 (l4 : (List FleetTask)) (x5 : Int) (l12710 : (List Int)) (k21084 : Nat) : ((List (List Int))) → Option ((List (List Int))) := fun l21083 =>
  (idx l12710 (k21084 : Int)).bind fun x21087 =>
  (idx l4 x21087).bind fun x21103 =>
  (chk x21103.Units).bind fun _ =>
  (forS (mFleetTurns_L21113 l4 x5 x21087) ((x21103.Units).toNat) 0 l21083).bind (fun l23974 =>
  some l23974)

/-- fishplate/fleet.Turns -/
noncomputable def mFleetTurns (l4 : (List FleetTask)) (x5 : Int) : Option (Int × (List (List Int))) :=
  (mFleetCheckTurn l4 x5).bind fun x12707 =>
  if x12707 ≠ 0 then (
  some (x12707, []))
  else (
  (mFleetOrder l4).bind fun l12710 =>
  (forS (mFleetTurns_L12718 l4 x5 l12710) l12710.length 0 ([] : (List (List Int)))).bind (fun l21083 =>
  some (0, l21083)))

/-- fishplate/fishkeep2.awakeFleet -/
noncomputable def mFishkeep2AwakeFleet : Option (Bool) :=
  (mFleetTurns [(⟨0, 0, 0, 0, 0, 0⟩ : FleetTask)] (-1)).bind (unc2 fun x25 _ =>
  some (decide (x25 ≠ 0)))

noncomputable def mSlicesEqual_L104 (l4 : (List Int)) (l8 : (List Int)) (k149 : Nat) : (Unit) → Option ((Unit) ⊕ (Bool)) := fun _ =>
  (idx l4 (k149 : Int)).bind fun x173 =>
  (idx l8 (k149 : Int)).bind fun x183 =>
  if x173 ≠ x183 then (
  some (.inr false))
  else (
  some (.inl ()))

/-- slices.Equal[[]int,int] -/
noncomputable def mSlicesEqual (l4 : (List Int)) (l8 : (List Int)) : Option (Bool) :=
  if (l4.length : Int) ≠ (l8.length : Int) then (
  some false)
  else (
  (forM (mSlicesEqual_L104 l4 l8) l4.length 0 ()).bind fun t => Sum.elim (fun _ =>
  some true) (fun q => some q) t)

/-- fishplate/fishkeep2.sets -/
noncomputable def mFishkeep2Sets : Option (Bool) :=
  (mFleetTurns [(⟨0, 1, 10, 20, 0, 1⟩ : FleetTask), (⟨1, 0, 25, 29, 0, 1⟩ : FleetTask)] 0).bind (unc2 fun x83 l84 =>
  (if x83 = 0 then (
  if (l84.length : Int) = 1 then (
  (idx l84 0).bind fun x125 =>
  (mSlicesEqual x125 [0, 1]).bind fun x148 =>
  some x148)
  else (
  some false))
  else (
  some false)).bind (fun x121 =>
  some x121))

noncomputable def mFleetCheckLimits_L41 (s1 : FleetLimits) (k56 : Nat) : (Unit) → Option ((Unit) ⊕ (Int)) := fun _ =>
  (idx [s1.Change, s1.Long, s1.Work, s1.After, s1.Break, s1.Rest] (k56 : Int)).bind fun x60 =>
  (mFleetWithin x60 0 86400).bind fun x69 =>
  if x69 = true then (
  some (.inl ()))
  else (
  some (.inr 2))

/-- fishplate/fleet.CheckLimits -/
noncomputable def mFleetCheckLimits (s1 : FleetLimits) : Option (Int) :=
  (forM (mFleetCheckLimits_L41 s1) 6 0 ()).bind fun t => Sum.elim (fun _ =>
  (mFleetWithin s1.Row 1 7).bind fun x74 =>
  if x74 = true then (
  some 0)
  else (
  some 2)) (fun q => some q) t

/-- fishplate/fleet.checkTasks -/
noncomputable def mFleetCheckTasks_2 (l4 : (List FleetTask)) (s5 : FleetLimits) : Option (Int) :=
  (mFleetCheckTasks l4).bind fun x14 =>
  if x14 ≠ 0 then (
  some x14)
  else (
  (mFleetCheckLimits s5).bind fun x17 =>
  some x17)

noncomputable def mSlicesIndex_L39 (l4 : (List Bool)) (x5 : Bool) (k54 : Nat) : (Unit) → Option ((Unit) ⊕ (Int)) := fun _ =>
  (idx l4 (k54 : Int)).bind fun x58 =>
  if (decide (x5 = x58)) = true then (
  some (.inr (k54 : Int)))
  else (
  some (.inl ()))

/-- slices.Index[[]bool,bool] -/
noncomputable def mSlicesIndex (l4 : (List Bool)) (x5 : Bool) : Option (Int) :=
  (forM (mSlicesIndex_L39 l4 x5) l4.length 0 ()).bind fun t => Sum.elim (fun _ =>
  some (-1)) (fun q => some q) t

/-- slices.Contains[[]bool,bool] -/
noncomputable def mSlicesContains (l4 : (List Bool)) (x5 : Bool) : Option (Bool) :=
  (mSlicesIndex l4 x5).bind fun x9 =>
  some (decide (0 ≤ x9))

/-- slices.Clone[[]int,int] -/
noncomputable def mSlicesClone (l4 : (List Int)) : Option ((List Int)) :=
  (room 8 l4.length).bind fun _ => some l4

/-- fishplate/fleet.judge-1 -/
noncomputable def mFleetJudge_1 (x4 : Int) (x5 : Int) (_x6 : Int) (_x7 : Int) (_x8 : Int) (x9 : Int) (_x10 : Int) (_x11 : Int) (_x12 : Int) (x13 : Int) : Option (Int) :=
  (chk (x4 - x5)).bind fun _ =>
  if x9 < (x4 - x5) then (
  some 4)
  else (
  some x13)

noncomputable def mFleetJudge_L603 (l4 : (List FleetTask)) (l8 : (List Int)) (s9 : FleetLimits) (k735 : Nat) : (Int × Int × Int) → Option ((Int × Int × Int) ⊕ (Int)) := unc3 fun x732 x733 x734 =>
  (idx l8 (k735 : Int)).bind fun x739 =>
  (idx l4 x739).bind fun x749 =>
  (chk (x749.Arr - x749.Dep)).bind fun _ =>
  (chk (x732 + (x749.Arr - x749.Dep))).bind fun _ =>
  if (k735 : Int) = 0 then (
  some (.inl (x732 + (x749.Arr - x749.Dep), x733, x734)))
  else (
  (chk ((k735 : Int) - 1)).bind fun _ =>
  (idx l8 ((k735 : Int) - 1)).bind fun x764 =>
  (idx l4 x764).bind fun x774 =>
  (if x749.From ≠ x774.To then (
  some true)
  else (
  (chk (x774.Arr + s9.Change)).bind fun _ =>
  some (decide (x749.Dep < (x774.Arr + s9.Change))))).bind (fun x789 =>
  if x789 = true then (
  some (.inr 1))
  else (
  (chk (x749.Dep - x774.Arr)).bind fun _ =>
  if s9.Break ≤ (x749.Dep - x774.Arr) then (
  (mFleetJudge_1 x774.Arr x734 s9.Change s9.Long s9.Work s9.After s9.Break s9.Rest s9.Row x733).bind fun x797 =>
  some (.inl (x732 + (x749.Arr - x749.Dep), x797, x749.Dep)))
  else (
  some (.inl (x732 + (x749.Arr - x749.Dep), x733, x734))))))

/-- fishplate/fleet.judge -/
noncomputable def mFleetJudge (l4 : (List FleetTask)) (l8 : (List Int)) (s9 : FleetLimits) : Option (Int) :=
  ((idx l8 0).bind fun x558 =>
  (idx l4 x558).bind fun x568 =>
  (chk ((l8.length : Int) - 1)).bind fun _ =>
  (idx l8 ((l8.length : Int) - 1)).bind fun x579 =>
  (idx l4 x579).bind fun x589 =>
  some (x568.From, x568.To, x568.Dep, x568.Arr, x568.Km, x568.Units, x589.From, x589.To, x589.Dep, x589.Arr, x589.Km, x589.Units)).bind (unc12 fun x502 _ x504 _ _ _ _ x509 _ x511 _ _ =>
  (forM (mFleetJudge_L603 l4 l8 s9) l8.length 0 (0, 0, x504)).bind fun t => Sum.elim (unc3 fun x732 x733 x734 =>
  (mFleetJudge_1 x511 x734 s9.Change s9.Long s9.Work s9.After s9.Break s9.Rest s9.Row x733).bind fun x802 =>
  (chk (x511 - x504)).bind fun _ =>
  if s9.Long < (x511 - x504) then (
  some 2)
  else (
  if s9.Work < x732 then (
  some 3)
  else (
  if 0 < x802 then (
  some x802)
  else (
  if x509 ≠ x502 then (
  some 5)
  else (
  some 0))))) (fun q => some q) t)

/-- (*fishplate/fleet.divider).take -/
noncomputable def mFleetDividerTake (rcmFleetDividerDivide : (Int) → (Int) → ((List Int)) → ((List FleetTask)) → (Int) → (Int) → (Int) → (Int) → (Int) → (Int) → (Int) → ((List Bool)) → ((List (List Int))) → Option (Bool × (List Bool) × (List (List Int)))) (x12 : Int) (x13 : Int) (l17 : (List Int)) (x19 : Int) (l23 : (List FleetTask)) (x24 : Int) (x25 : Int) (x26 : Int) (x27 : Int) (x28 : Int) (x29 : Int) (x30 : Int) (l31 : (List Bool)) (l32 : (List (List Int))) : Option (Bool × (List Bool) × (List (List Int))) :=
  (idx l31 x19).bind fun x522 =>
  if x522 = true then (
  some (false, l31, l32))
  else (
  (if 0 < (l17.length : Int) then (
  ((chk ((l17.length : Int) - 1)).bind fun _ =>
  (idx l17 ((l17.length : Int) - 1)).bind fun x813 =>
  (idx l23 x813).bind fun x823 =>
  some (x823.From, x823.To, x823.Dep, x823.Arr, x823.Km, x823.Units)).bind (unc6 fun _ x784 _ x786 _ _ =>
  ((idx l23 x19).bind fun x904 =>
  if x904.From ≠ x784 then (
  some true)
  else (
  (idx l23 x19).bind fun x915 =>
  (chk (x786 + x24)).bind fun _ =>
  some (decide (x915.Dep < (x786 + x24))))).bind (fun x880 =>
  if x880 = true then (
  some (.inr (false, l31, l32)))
  else (
  some (.inl ())))))
  else (
  some (.inl ()))).bind fun t => Sum.elim (fun _ =>
  (idx l31 x19).bind fun _ =>
  (mSlicesClone l17).bind fun l947 =>
  (room 8 (l947.length + 1)).bind fun _ =>
  (rcmFleetDividerDivide x12 x13 (l947 ++ [x19]) l23 x24 x25 x26 x27 x28 x29 x30 (put l31 x19 true) l32).bind (unc3 fun x966 l967 l968 =>
  if x966 = true then (
  some (true, l967, l968))
  else (
  (idx l967 x19).bind fun _ =>
  some (false, put l967 x19 false, l968)))) (fun r998 => some r998) t)

noncomputable def mFleetDividerDivide_L952 (l22 : (List FleetTask)) (x12 : Int) (x13 : Int) (x23 : Int) (x24 : Int) (x25 : Int) (x26 : Int) (x27 : Int) (x28 : Int) (x29 : Int) (rcmFleetDividerDivide : (Int) → (Int) → ((List Int)) → ((List FleetTask)) → (Int) → (Int) → (Int) → (Int) → (Int) → (Int) → (Int) → ((List Bool)) → ((List (List Int))) → Option (Bool × (List Bool) × (List (List Int)))) : (Int × (List Bool) × (List (List Int))) → Option ((Int × (List Bool) × (List (List Int))) ⊕ (((List Bool) × (List (List Int))) ⊕ (Bool × (List Bool) × (List (List Int))))) := unc3 fun x1007 l1008 l1010 =>
  if x1007 < (l22.length : Int) then (
  (mFleetDividerTake rcmFleetDividerDivide x12 x13 [] x1007 l22 x23 x24 x25 x26 x27 x28 x29 l1008 l1010).bind (unc3 fun x1012 l1013 l1014 =>
  if x1012 = true then (
  some (.inr (.inr (true, l1013, l1014))))
  else (
  (chk (x1007 + 1)).bind fun _ =>
  some (.inl (x1007 + 1, l1013, l1014)))))
  else (
  some (.inr (.inl (l1008, l1010))))

noncomputable def mFleetDividerDivide_L1175 (l17 : (List Int)) (l22 : (List FleetTask)) (x12 : Int) (x13 : Int) (x23 : Int) (x24 : Int) (x25 : Int) (x26 : Int) (x27 : Int) (x28 : Int) (x29 : Int) (rcmFleetDividerDivide : (Int) → (Int) → ((List Int)) → ((List FleetTask)) → (Int) → (Int) → (Int) → (Int) → (Int) → (Int) → (Int) → ((List Bool)) → ((List (List Int))) → Option (Bool × (List Bool) × (List (List Int)))) (k1229 : Nat) : ((List Bool) × (List (List Int))) → Option (((List Bool) × (List (List Int))) ⊕ (Bool × (List Bool) × (List (List Int)))) := unc2 fun l1226 l1228 =>
  (mFleetDividerTake rcmFleetDividerDivide x12 x13 l17 (k1229 : Int) l22 x23 x24 x25 x26 x27 x28 x29 l1226 l1228).bind (unc3 fun x1233 l1234 l1235 =>
  if x1233 = true then (
  some (.inr (true, l1234, l1235)))
  else (
  some (.inl (l1234, l1235))))

/-- (*fishplate/fleet.divider).divide -/
noncomputable def mFleetDividerDivide : Nat → (Int) → (Int) → ((List Int)) → ((List FleetTask)) → (Int) → (Int) → (Int) → (Int) → (Int) → (Int) → (Int) → ((List Bool)) → ((List (List Int))) → Option (Bool × (List Bool) × (List (List Int)))
  | 0 => fun _ _ _ _ _ _ _ _ _ _ _ _ _ => none
  | N + 1 => fun x12 x13 l17 l22 x23 x24 x25 x26 x27 x28 x29 l30 l31 =>
  if l17.isEmpty = true then (
  (mSlicesContains l30 false).bind fun x856 =>
  if x856 = true then (
  if x12 = 0 then (
  some (false, l30, l31))
  else (
  ((chk (x13 + 1)).bind fun _ =>
  loopM (mFleetDividerDivide_L952 l22 x12 x13 x23 x24 x25 x26 x27 x28 x29 (mFleetDividerDivide N)) (x13 + 1, l30, l31)).bind fun t => Sum.elim (unc2 fun l946 l948 =>
  some (false, l946, l948)) (fun r1029 => some r1029) t))
  else (
  some (decide (x12 = 0), l30, l31)))
  else (
  ((mFleetJudge l22 l17 (⟨x23, x24, x25, x26, x27, x28, x29⟩ : FleetLimits)).bind fun x1111 =>
  if x1111 = 0 then (
  (room 24 (l31.length + 1)).bind fun _ =>
  (chk (x12 - 1)).bind fun _ =>
  (idx l17 0).bind fun x1121 =>
  ((mFleetDividerDivide N) (x12 - 1) x1121 [] l22 x23 x24 x25 x26 x27 x28 x29 l30 (l31 ++ [l17])).bind (unc3 fun x1131 l1132 l1133 =>
  if x1131 = true then (
  some (.inr (true, l1132, l1133)))
  else (
  (chk ((l1133.length : Int) - 1)).bind fun _ =>
  (cutS l1133 0 ((l1133.length : Int) - 1)).bind fun l1161 =>
  some (.inl (l1132, l1161)))))
  else (
  some (.inl (l30, l31)))).bind fun t => Sum.elim (unc2 fun l1104 l1106 =>
  (forM (mFleetDividerDivide_L1175 l17 l22 x12 x13 x23 x24 x25 x26 x27 x28 x29 (mFleetDividerDivide N)) l22.length 0 (l1104, l1106)).bind fun t => Sum.elim (unc2 fun l1226 l1228 =>
  some (false, l1226, l1228)) (fun q => some q) t) (fun r1249 => some r1249) t)

noncomputable def mFleetDuties_L139 (l4 : (List FleetTask)) (s5 : FleetLimits) (k195 : Nat) : (Unit) → Option ((Unit) ⊕ (Int × (List (List Int)))) := fun _ =>
  ((mkLen 1 (l4.length : Int)).bind fun m230 =>
  some (List.replicate m230 (false : Bool))).bind (fun l221 =>
  (lim (fun N => mFleetDividerDivide N (k195 : Int) (-1) [] l4 s5.Change s5.Long s5.Work s5.After s5.Break s5.Rest s5.Row l221 [])).bind (unc3 fun x237 _ l239 =>
  if x237 = true then (
  some (.inr (0, l239)))
  else (
  some (.inl ()))))

/-- fishplate/fleet.Duties -/
noncomputable def mFleetDuties (l4 : (List FleetTask)) (s5 : FleetLimits) : Option (Int × (List (List Int))) :=
  (mFleetCheckTasks_2 l4 s5).bind fun x134 =>
  if x134 ≠ 0 then (
  some (x134, []))
  else (
  if 8 < (l4.length : Int) then (
  some (4, []))
  else (
  (chk ((l4.length : Int) + 1)).bind fun _ =>
  (chk ((l4.length : Int) + 1)).bind fun _ =>
  (forM (mFleetDuties_L139 l4 s5) (((l4.length : Int) + 1).toNat) 0 ()).bind fun t => Sum.elim (fun _ =>
  some (9, [])) (fun q => some q) t))

noncomputable def mSlicesIndex_2_L39 (l4 : (List Int)) (x5 : Int) (k54 : Nat) : (Unit) → Option ((Unit) ⊕ (Int)) := fun _ =>
  (idx l4 (k54 : Int)).bind fun x58 =>
  if x5 = x58 then (
  some (.inr (k54 : Int)))
  else (
  some (.inl ()))

/-- slices.Index[[]int,int] -/
noncomputable def mSlicesIndex_2 (l4 : (List Int)) (x5 : Int) : Option (Int) :=
  (forM (mSlicesIndex_2_L39 l4 x5) l4.length 0 ()).bind fun t => Sum.elim (fun _ =>
  some (-1)) (fun q => some q) t

/-- slices.Contains[[]int,int] -/
noncomputable def mSlicesContains_2 (l4 : (List Int)) (x5 : Int) : Option (Bool) :=
  (mSlicesIndex_2 l4 x5).bind fun x9 =>
  some (decide (0 ≤ x9))

noncomputable def mFleetJudge_2_L99 (l4 : (List FleetTask)) (l8 : (List Int)) (k135 : Nat) : (Unit) → Option ((Unit) ⊕ (Int × Int)) := fun _ =>
  (idx l8 (k135 : Int)).bind fun x139 =>
  (chk ((l4.length : Int) - 1)).bind fun _ =>
  (mFleetWithin x139 0 ((l4.length : Int) - 1)).bind fun x150 =>
  if x150 = true then (
  (cutS l8 0 (k135 : Int)).bind fun l154 =>
  (mSlicesContains_2 l154 x139).bind fun x169 =>
  if x169 = true then (
  some (.inr (0, 6)))
  else (
  some (.inl ())))
  else (
  some (.inr (0, 2)))

/-- fishplate/fleet.Judge -/
noncomputable def mFleetJudge_2 (l4 : (List FleetTask)) (l8 : (List Int)) (s9 : FleetLimits) : Option (Int × Int) :=
  (mFleetCheckTasks_2 l4 s9).bind fun x95 =>
  if x95 ≠ 0 then (
  some (0, x95))
  else (
  if (l8.length : Int) = 0 then (
  some (0, 1))
  else (
  (forM (mFleetJudge_2_L99 l4 l8) l8.length 0 ()).bind fun t => Sum.elim (fun _ =>
  (mFleetJudge l4 l8 s9).bind fun x174 =>
  some (x174, 0)) (fun q => some q) t))

/-- fishplate/fishkeep2.FleetKept-1 -/
noncomputable def mFishkeep2FleetKept_1 (x1 : Int) : Option (Bool) :=
  some (decide (x1 ≠ 1))

noncomputable def mSlicesIndexFunc_L42 (l4 : (List Int)) (k59 : Nat) : (Unit) → Option ((Unit) ⊕ (Int)) := fun _ =>
  (idx l4 (k59 : Int)).bind fun x63 =>
  (mFishkeep2FleetKept_1 x63).bind fun x73 =>
  if x73 = true then (
  some (.inr (k59 : Int)))
  else (
  some (.inl ()))

/-- slices.IndexFunc[[]int,int] -/
noncomputable def mSlicesIndexFunc (l4 : (List Int)) : Option (Int) :=
  (forM (mSlicesIndexFunc_L42 l4) l4.length 0 ()).bind fun t => Sum.elim (fun _ =>
  some (-1)) (fun q => some q) t

/-- slices.ContainsFunc[[]int,int] -/
noncomputable def mSlicesContainsFunc (l4 : (List Int)) : Option (Bool) :=
  (mSlicesIndexFunc l4).bind fun x8 =>
  some (decide (0 ≤ x8))

noncomputable def mFishkeep2FleetKept_L1177 (l4 : (List FleetTask)) (x1147 : (List Int)) (k1295 : Nat) : ((List Int)) → Option (((List Int)) ⊕ (((List Int)) ⊕ (Bool))) := fun l1293 =>
  (idx x1147 (k1295 : Int)).bind fun x1299 =>
  (if x1299 < 0 then (
  some true)
  else (
  some (decide ((l4.length : Int) ≤ x1299)))).bind (fun x1312 =>
  if x1312 = true then (
  some (.inr (.inr false)))
  else (
  (idx l1293 x1299).bind fun x1318 =>
  (chk (x1318 + 1)).bind fun _ =>
  (idx l1293 x1299).bind fun _ =>
  some (.inl (put l1293 x1299 (x1318 + 1)))))

noncomputable def mFishkeep2FleetKept_L721 (l4 : (List FleetTask)) (s5 : FleetLimits) (l706 : (List (List Int))) (k1143 : Nat) : ((List Int)) → Option (((List Int)) ⊕ (Bool)) := fun l1141 =>
  (idx l706 (k1143 : Int)).bind fun x1147 =>
  (mFleetJudge_2 l4 x1147 s5).bind (unc2 fun x1166 x1167 =>
  (if x1166 ≠ 0 then (
  some true)
  else (
  some (decide (x1167 ≠ 0)))).bind (fun x1172 =>
  if x1172 = true then (
  some (.inr false))
  else (
  (forM (mFishkeep2FleetKept_L1177 l4 x1147) x1147.length 0 l1141).bind fun t => Sum.elim (fun l1293 =>
  some (.inl l1293)) (fun q => some q) t)))

/-- fishplate/fishkeep2.FleetKept -/
noncomputable def mFishkeep2FleetKept (l4 : (List FleetTask)) (s5 : FleetLimits) (x6 : Int) : Option (Bool) :=
  (mFishkeep2AwakeFleet).bind fun x699 =>
  if x699 = true then (
  (mFishkeep2Sets).bind fun x702 =>
  if x702 = true then (
  (mFleetDuties l4 s5).bind (unc2 fun x705 l706 =>
  if x705 ≠ 0 then (
  some (decide ((l706.length : Int) = 0)))
  else (
  (mkLen 8 (l4.length : Int)).bind fun m715 =>
  (forM (mFishkeep2FleetKept_L721 l4 s5 l706) l706.length 0 (List.replicate m715 (0 : Int))).bind fun t => Sum.elim (fun l1141 =>
  (mSlicesContainsFunc l1141).bind fun x1355 =>
  if x1355 = true then (
  some false)
  else (
  (chk (86400 - s5.Long)).bind fun _ =>
  (chk (86400 - s5.Work)).bind fun _ =>
  (chk (86400 - s5.After)).bind fun _ =>
  (if x6 < 0 then (
  some true)
  else (
  some (decide ((min (min (min (86400 - s5.Long) (86400 - s5.Work)) (86400 - s5.After)) s5.Change) < x6)))).bind (fun x1364 =>
  if x1364 = true then (
  some true)
  else (
  (chk (s5.Change - x6)).bind fun _ =>
  (chk (s5.Long + x6)).bind fun _ =>
  (chk (s5.Work + x6)).bind fun _ =>
  (chk (s5.After + x6)).bind fun _ =>
  (mFleetDuties l4 (⟨s5.Change - x6, s5.Long + x6, s5.Work + x6, s5.After + x6, s5.Break, s5.Rest, s5.Row⟩ : FleetLimits)).bind (unc2 fun x1373 l1374 =>
  (if x1373 = 0 then (
  some (decide ((l1374.length : Int) ≤ (l706.length : Int))))
  else (
  some false)).bind (fun x1385 =>
  some x1385)))))) (fun q => some q) t)))
  else (
  some false))
  else (
  some false)

end Go.Proofs.Ytajmocgpjkhjlaa
