/- The models of the functions, as the extractor printed them. -/
import Derived.Test.YtajmocgpjkhjlaaXE
set_option linter.unusedVariables false
set_option linter.unusedSimpArgs false
namespace Go.Proofs.Ytajmocgpjkhjlaa
open Go.RowKit Go.Fp

structure FleetTask where
  From : Int
  To : Int
  Dep : Int
  Arr : Int
  Km : Int
  Units : Int
  deriving DecidableEq
def rFleetTask : RT FleetTask := (RT.cat (RT.on (RT.int .i64) FleetTask.From) (RT.cat (RT.on (RT.int .i64) FleetTask.To) (RT.cat (RT.on (RT.int .i64) FleetTask.Dep) (RT.cat (RT.on (RT.int .i64) FleetTask.Arr) (RT.cat (RT.on (RT.int .i64) FleetTask.Km) (RT.on (RT.int .i64) FleetTask.Units))))))
structure FleetMoment where
  Place : Int
  At : Int
  Short : Int
  deriving DecidableEq
def rFleetMoment : RT FleetMoment := (RT.cat (RT.on (RT.int .i64) FleetMoment.Place) (RT.cat (RT.on (RT.int .i64) FleetMoment.At) (RT.on (RT.int .i64) FleetMoment.Short)))

/-- fishplate/fleet.within -/
noncomputable def mFleetWithin (x1 : Int) (x2 : Int) (x3 : Int) : Option (Bool) :=
  (if x2 ≤ x1 then (
  some (decide (x1 ≤ x3)))
  else (
  some false)).bind (fun x14 =>
  some x14)

noncomputable def mFleetCheckTasks_L128 (l4 : (List FleetTask)) (k186 : Nat) : (Unit) → Option ((Unit) ⊕ (Int)) := fun _ =>
  (idx l4 (k186 : Int)).bind fun x190 =>
  ((mFleetWithin x190.From 0 11).bind fun x216 =>
  if x216 = true then (
  (mFleetWithin x190.To 0 11).bind fun x219 =>
  if x219 = true then (
  (mFleetWithin x190.Dep 0 28800).bind fun x222 =>
  if x222 = true then (
  (mFleetWithin x190.Arr 0 28800).bind fun x225 =>
  some (!x225))
  else (
  some true))
  else (
  some true))
  else (
  some true)).bind (fun x214 =>
  if x214 = true then (
  some (.inr 2))
  else (
  if x190.Arr ≤ x190.Dep then (
  some (.inr 13))
  else (
  ((mFleetWithin x190.Km 0 10000).bind fun x240 =>
  if x240 = true then (
  (mFleetWithin x190.Units 1 4).bind fun x243 =>
  some (!x243))
  else (
  some true)).bind (fun x238 =>
  if x238 = true then (
  some (.inr 2))
  else (
  some (.inl ()))))))

/-- fishplate/fleet.CheckTasks -/
noncomputable def mFleetCheckTasks (l4 : (List FleetTask)) : Option (Int) :=
  if 40 < (l4.length : Int) then (
  some 4)
  else (
  (forM (mFleetCheckTasks_L128 l4) l4.length 0 ()).bind fun t => Sum.elim (fun _ =>
  some 0) (fun q => some q) t)

/-- fishplate/fleet.checkTurn -/
noncomputable def mFleetCheckTurn (l4 : (List FleetTask)) (x5 : Int) : Option (Int) :=
  (mFleetCheckTasks l4).bind fun x13 =>
  if x13 ≠ 0 then (
  some x13)
  else (
  (mFleetWithin x5 0 28800).bind fun x16 =>
  if x16 = true then (
  some 0)
  else (
  some 2))

/-- cmp.isNaN[int] -/
noncomputable def mCmpIsNaN (x1 : Int) : Option (Bool) :=
  some (decide (x1 ≠ x1))

/-- cmp.Compare[int] -/
noncomputable def mCmpCompare (x1 : Int) (x2 : Int) : Option (Int) :=
  (mCmpIsNaN x1).bind fun x13 =>
  (mCmpIsNaN x2).bind fun x15 =>
  if x13 = true then (
  if x15 = true then (
  some 0)
  else (
  some (-1)))
  else (
  if x15 = true then (
  some 1)
  else (
  if x1 < x2 then (
  some (-1))
  else (
  if x2 < x1 then (
  some 1)
  else (
  some 0))))

/-- fishplate/fleet.order-1 -/
noncomputable def mFleetOrder_1 (x2 : Int) (x3 : Int) (l7 : (List FleetTask)) : Option (Int) :=
  (idx l7 x2).bind fun x75 =>
  (idx l7 x3).bind fun x85 =>
  (mCmpCompare x75.Dep x85.Dep).bind fun x95 =>
  some x95

noncomputable def mSlicesInsertionSortCmpFunc_L10142 (x7 : Int) (l12 : (List FleetTask)) : (Int × (List Int)) → Option ((Int × (List Int)) ⊕ ((List Int))) := unc2 fun x10752 l10753 =>
  (if x7 < x10752 then (
  (idx l10753 x10752).bind fun x10874 =>
  (chk (x10752 - 1)).bind fun _ =>
  (idx l10753 (x10752 - 1)).bind fun x10891 =>
  (mFleetOrder_1 x10874 x10891 l12).bind fun x10907 =>
  some (decide (x10907 < 0)))
  else (
  some false)).bind (fun x10833 =>
  if x10833 = true then (
  (chk (x10752 - 1)).bind fun _ =>
  (chk (x10752 - 1)).bind fun _ =>
  (idx l10753 (x10752 - 1)).bind fun x10984 =>
  (idx l10753 x10752).bind fun x11000 =>
  (idx l10753 x10752).bind fun _ =>
  (idx (put l10753 x10752 x10984) (x10752 - 1)).bind fun _ =>
  (chk (x10752 - 1)).bind fun _ =>
  some (.inl (x10752 - 1, put (put l10753 x10752 x10984) (x10752 - 1) x11000)))
  else (
  some (.inr l10753)))

noncomputable def mSlicesInsertionSortCmpFunc_L5538 (x7 : Int) (x8 : Int) (l12 : (List FleetTask)) : (Int × (List Int)) → Option ((Int × (List Int)) ⊕ ((List Int))) := unc2 fun x9218 l9219 =>
  if x9218 < x8 then (
  (loopM (mSlicesInsertionSortCmpFunc_L10142 x7 l12) (x9218, l9219)).bind (fun l10139 =>
  (chk (x9218 + 1)).bind fun _ =>
  some (.inl (x9218 + 1, l10139))))
  else (
  some (.inr l9219))

/-- slices.insertionSortCmpFunc[int] -/
noncomputable def mSlicesInsertionSortCmpFunc (x7 : Int) (x8 : Int) (l12 : (List FleetTask)) (l13 : (List Int)) : Option ((List Int)) :=
  (chk (x7 + 1)).bind fun _ =>
  loopM (mSlicesInsertionSortCmpFunc_L5538 x7 x8 l12) (x7 + 1, l13)

noncomputable def mSlicesSwapRangeCmpFunc_L476 (x7 : Int) (x8 : Int) (x9 : Int) : (Int × (List Int)) → Option ((Int × (List Int)) ⊕ ((List Int))) := unc2 fun x782 l783 =>
  if x782 < x9 then (
  (chk (x7 + x782)).bind fun _ =>
  (chk (x8 + x782)).bind fun _ =>
  (chk (x8 + x782)).bind fun _ =>
  (idx l783 (x8 + x782)).bind fun x861 =>
  (chk (x7 + x782)).bind fun _ =>
  (idx l783 (x7 + x782)).bind fun x878 =>
  (idx l783 (x7 + x782)).bind fun _ =>
  (idx (put l783 (x7 + x782) x861) (x8 + x782)).bind fun _ =>
  (chk (x782 + 1)).bind fun _ =>
  some (.inl (x782 + 1, put (put l783 (x7 + x782) x861) (x8 + x782) x878)))
  else (
  some (.inr l783))

/-- slices.swapRangeCmpFunc[int] -/
noncomputable def mSlicesSwapRangeCmpFunc (x7 : Int) (x8 : Int) (x9 : Int) (_l13 : (List FleetTask)) (l14 : (List Int)) : Option ((List Int)) :=
  loopM (mSlicesSwapRangeCmpFunc_L476 x7 x8 x9) (0, l14)

noncomputable def mSlicesRotateCmpFunc_L299 (x8 : Int) (l13 : (List FleetTask)) : (Int × Int × (List Int)) → Option ((Int × Int × (List Int)) ⊕ (Int × (List Int))) := unc3 fun x356 x357 l358 =>
  if x356 ≠ x357 then (
  if x357 < x356 then (
  (chk (x8 - x356)).bind fun _ =>
  (mSlicesSwapRangeCmpFunc (x8 - x356) x8 x357 l13 l358).bind fun l363 =>
  (chk (x356 - x357)).bind fun _ =>
  some (.inl (x356 - x357, x357, l363)))
  else (
  (chk (x8 - x356)).bind fun _ =>
  (chk (x8 + x357)).bind fun _ =>
  (chk ((x8 + x357) - x356)).bind fun _ =>
  (mSlicesSwapRangeCmpFunc (x8 - x356) ((x8 + x357) - x356) x356 l13 l358).bind fun l374 =>
  (chk (x357 - x356)).bind fun _ =>
  some (.inl (x356, x357 - x356, l374))))
  else (
  some (.inr (x356, l358)))

/-- slices.rotateCmpFunc[int] -/
noncomputable def mSlicesRotateCmpFunc (x7 : Int) (x8 : Int) (x9 : Int) (l13 : (List FleetTask)) (l14 : (List Int)) : Option ((List Int)) :=
  (chk (x8 - x7)).bind fun _ =>
  (chk (x9 - x8)).bind fun _ =>
  (loopM (mSlicesRotateCmpFunc_L299 x8 l13) (x8 - x7, x9 - x8, l14)).bind (unc2 fun x295 l296 =>
  (chk (x8 - x295)).bind fun _ =>
  (mSlicesSwapRangeCmpFunc (x8 - x295) x8 x295 l13 l296).bind fun l383 =>
  some l383)

noncomputable def mSlicesSymMergeCmpFunc_L6951 (x7 : Int) (l13 : (List FleetTask)) (l14 : (List Int)) : (Int × Int) → Option ((Int × Int) ⊕ (Int)) := unc2 fun x7110 x7111 =>
  if x7110 < x7111 then (
  (chk (x7110 + x7111)).bind fun _ =>
  (shN 1).bind fun _ =>
  (idx l14 (IntKind.wrap .i64 (shrI .u64 (IntKind.wrap .u64 (x7110 + x7111)) 1))).bind fun x7151 =>
  (idx l14 x7).bind fun x7167 =>
  (mFleetOrder_1 x7151 x7167 l13).bind fun x7183 =>
  if x7183 < 0 then (
  (chk ((IntKind.wrap .i64 (shrI .u64 (IntKind.wrap .u64 (x7110 + x7111)) 1)) + 1)).bind fun _ =>
  some (.inl ((IntKind.wrap .i64 (shrI .u64 (IntKind.wrap .u64 (x7110 + x7111)) 1)) + 1, x7111)))
  else (
  some (.inl (x7110, IntKind.wrap .i64 (shrI .u64 (IntKind.wrap .u64 (x7110 + x7111)) 1)))))
  else (
  some (.inr x7110))

noncomputable def mSlicesSymMergeCmpFunc_L7644 (x6949 : Int) : (Int × (List Int)) → Option ((Int × (List Int)) ⊕ ((List Int))) := unc2 fun x7944 l7945 =>
  (chk (x6949 - 1)).bind fun _ =>
  if x7944 < (x6949 - 1) then (
  (chk (x7944 + 1)).bind fun _ =>
  (chk (x7944 + 1)).bind fun _ =>
  (idx l7945 (x7944 + 1)).bind fun x8021 =>
  (idx l7945 x7944).bind fun x8037 =>
  (idx l7945 x7944).bind fun _ =>
  (idx (put l7945 x7944 x8021) (x7944 + 1)).bind fun _ =>
  (chk (x7944 + 1)).bind fun _ =>
  some (.inl (x7944 + 1, put (put l7945 x7944 x8021) (x7944 + 1) x8037)))
  else (
  some (.inr l7945))

noncomputable def mSlicesSymMergeCmpFunc_L8335 (x8 : Int) (l13 : (List FleetTask)) (l14 : (List Int)) : (Int × Int) → Option ((Int × Int) ⊕ (Int)) := unc2 fun x8494 x8495 =>
  if x8494 < x8495 then (
  (chk (x8494 + x8495)).bind fun _ =>
  (shN 1).bind fun _ =>
  (idx l14 x8).bind fun x8535 =>
  (idx l14 (IntKind.wrap .i64 (shrI .u64 (IntKind.wrap .u64 (x8494 + x8495)) 1))).bind fun x8551 =>
  (mFleetOrder_1 x8535 x8551 l13).bind fun x8567 =>
  if x8567 < 0 then (
  some (.inl (x8494, IntKind.wrap .i64 (shrI .u64 (IntKind.wrap .u64 (x8494 + x8495)) 1))))
  else (
  (chk ((IntKind.wrap .i64 (shrI .u64 (IntKind.wrap .u64 (x8494 + x8495)) 1)) + 1)).bind fun _ =>
  some (.inl ((IntKind.wrap .i64 (shrI .u64 (IntKind.wrap .u64 (x8494 + x8495)) 1)) + 1, x8495))))
  else (
  some (.inr x8494))

noncomputable def mSlicesSymMergeCmpFunc_L9025 (x8333 : Int) : (Int × (List Int)) → Option ((Int × (List Int)) ⊕ ((List Int))) := unc2 fun x9323 l9324 =>
  if x8333 < x9323 then (
  (chk (x9323 - 1)).bind fun _ =>
  (chk (x9323 - 1)).bind fun _ =>
  (idx l9324 (x9323 - 1)).bind fun x9399 =>
  (idx l9324 x9323).bind fun x9415 =>
  (idx l9324 x9323).bind fun _ =>
  (idx (put l9324 x9323 x9399) (x9323 - 1)).bind fun _ =>
  (chk (x9323 - 1)).bind fun _ =>
  some (.inl (x9323 - 1, put (put l9324 x9323 x9399) (x9323 - 1) x9415)))
  else (
  some (.inr l9324))

noncomputable def mSlicesSymMergeCmpFunc_L9730 (x7 : Int) (x8 : Int) (x9 : Int) (l13 : (List FleetTask)) (l14 : (List Int)) : (Int × Int) → Option ((Int × Int) ⊕ (Int)) := unc2 fun x9893 x9894 =>
  if x9893 < x9894 then (
  (chk (x9893 + x9894)).bind fun _ =>
  (shN 1).bind fun _ =>
  (chk ((((IntKind.wrap .i64 (shrI .u64 (IntKind.wrap .u64 (x7 + x9)) 1)) + x8) - 1) - (IntKind.wrap .i64 (shrI .u64 (IntKind.wrap .u64 (x9893 + x9894)) 1)))).bind fun _ =>
  (idx l14 ((((IntKind.wrap .i64 (shrI .u64 (IntKind.wrap .u64 (x7 + x9)) 1)) + x8) - 1) - (IntKind.wrap .i64 (shrI .u64 (IntKind.wrap .u64 (x9893 + x9894)) 1)))).bind fun x9936 =>
  (idx l14 (IntKind.wrap .i64 (shrI .u64 (IntKind.wrap .u64 (x9893 + x9894)) 1))).bind fun x9952 =>
  (mFleetOrder_1 x9936 x9952 l13).bind fun x9968 =>
  if x9968 < 0 then (
  some (.inl (x9893, IntKind.wrap .i64 (shrI .u64 (IntKind.wrap .u64 (x9893 + x9894)) 1))))
  else (
  (chk ((IntKind.wrap .i64 (shrI .u64 (IntKind.wrap .u64 (x9893 + x9894)) 1)) + 1)).bind fun _ =>
  some (.inl ((IntKind.wrap .i64 (shrI .u64 (IntKind.wrap .u64 (x9893 + x9894)) 1)) + 1, x9894))))
  else (
  some (.inr x9893))

/-- slices.symMergeCmpFunc[int] -/
noncomputable def mSlicesSymMergeCmpFunc : Nat → (Int) → (Int) → (Int) → ((List FleetTask)) → ((List Int)) → Option ((List Int))
  | 0 => fun _ _ _ _ _ => none
  | N + 1 => fun x7 x8 x9 l13 l14 =>
  (chk (x8 - x7)).bind fun _ =>
  if (x8 - x7) = 1 then (
  (loopM (mSlicesSymMergeCmpFunc_L6951 x7 l13 l14) (x8, x9)).bind (fun x6949 =>
  (loopM (mSlicesSymMergeCmpFunc_L7644 x6949) (x7, l14)).bind (fun l7641 =>
  some l7641)))
  else (
  (chk (x9 - x8)).bind fun _ =>
  if (x9 - x8) = 1 then (
  (loopM (mSlicesSymMergeCmpFunc_L8335 x8 l13 l14) (x7, x8)).bind (fun x8333 =>
  (loopM (mSlicesSymMergeCmpFunc_L9025 x8333) (x8, l14)).bind (fun l9022 =>
  some l9022)))
  else (
  (chk (x7 + x9)).bind fun _ =>
  (shN 1).bind fun _ =>
  (chk ((IntKind.wrap .i64 (shrI .u64 (IntKind.wrap .u64 (x7 + x9)) 1)) + x8)).bind fun _ =>
  (if (IntKind.wrap .i64 (shrI .u64 (IntKind.wrap .u64 (x7 + x9)) 1)) < x8 then (
  (chk (((IntKind.wrap .i64 (shrI .u64 (IntKind.wrap .u64 (x7 + x9)) 1)) + x8) - x9)).bind fun _ =>
  some (((IntKind.wrap .i64 (shrI .u64 (IntKind.wrap .u64 (x7 + x9)) 1)) + x8) - x9, IntKind.wrap .i64 (shrI .u64 (IntKind.wrap .u64 (x7 + x9)) 1)))
  else (
  some (x7, x8))).bind (unc2 fun x9476 x9477 =>
  (chk (((IntKind.wrap .i64 (shrI .u64 (IntKind.wrap .u64 (x7 + x9)) 1)) + x8) - 1)).bind fun _ =>
  (loopM (mSlicesSymMergeCmpFunc_L9730 x7 x8 x9 l13 l14) (x9476, x9477)).bind (fun x9728 =>
  (chk (((IntKind.wrap .i64 (shrI .u64 (IntKind.wrap .u64 (x7 + x9)) 1)) + x8) - x9728)).bind fun _ =>
  ((if x9728 < x8 then (
  some (decide (x8 < (((IntKind.wrap .i64 (shrI .u64 (IntKind.wrap .u64 (x7 + x9)) 1)) + x8) - x9728))))
  else (
  some false)).bind (fun x10000 =>
  if x10000 = true then (
  (mSlicesRotateCmpFunc x9728 x8 (((IntKind.wrap .i64 (shrI .u64 (IntKind.wrap .u64 (x7 + x9)) 1)) + x8) - x9728) l13 l14).bind fun l10004 =>
  some l10004)
  else (
  some l14))).bind (fun l9994 =>
  ((if x7 < x9728 then (
  some (decide (x9728 < (IntKind.wrap .i64 (shrI .u64 (IntKind.wrap .u64 (x7 + x9)) 1)))))
  else (
  some false)).bind (fun x10036 =>
  if x10036 = true then (
  ((mSlicesSymMergeCmpFunc N) x7 x9728 (IntKind.wrap .i64 (shrI .u64 (IntKind.wrap .u64 (x7 + x9)) 1)) l13 l9994).bind fun l10040 =>
  some l10040)
  else (
  some l9994))).bind (fun l10030 =>
  (if (IntKind.wrap .i64 (shrI .u64 (IntKind.wrap .u64 (x7 + x9)) 1)) < (((IntKind.wrap .i64 (shrI .u64 (IntKind.wrap .u64 (x7 + x9)) 1)) + x8) - x9728) then (
  some (decide ((((IntKind.wrap .i64 (shrI .u64 (IntKind.wrap .u64 (x7 + x9)) 1)) + x8) - x9728) < x9)))
  else (
  some false)).bind (fun x10050 =>
  if x10050 = true then (
  ((mSlicesSymMergeCmpFunc N) (IntKind.wrap .i64 (shrI .u64 (IntKind.wrap .u64 (x7 + x9)) 1)) (((IntKind.wrap .i64 (shrI .u64 (IntKind.wrap .u64 (x7 + x9)) 1)) + x8) - x9728) x9 l13 l10030).bind fun l10054 =>
  some l10054)
  else (
  some l10030))))))))

noncomputable def mSlicesStableCmpFunc_L604 (x7 : Int) (l11 : (List FleetTask)) : (Int × Int × (List Int)) → Option ((Int × Int × (List Int)) ⊕ (Int × (List Int))) := unc3 fun x635 x636 l637 =>
  if x636 ≤ x7 then (
  (mSlicesInsertionSortCmpFunc x635 x636 l11 l637).bind fun l640 =>
  (chk (x636 + 20)).bind fun _ =>
  some (.inl (x636, x636 + 20, l640)))
  else (
  some (.inr (x635, l637)))

noncomputable def mSlicesStableCmpFunc_L1007 (x7 : Int) (l11 : (List FleetTask)) (x943 : Int) : (Int × Int × (List Int)) → Option ((Int × Int × (List Int)) ⊕ (Int × (List Int))) := unc3 fun x1042 x1043 l1044 =>
  if x1043 ≤ x7 then (
  (chk (x1042 + x943)).bind fun _ =>
  (lim (fun N => mSlicesSymMergeCmpFunc N x1042 (x1042 + x943) x1043 l11 l1044)).bind fun l1048 =>
  (chk (2 * x943)).bind fun _ =>
  (chk (x1043 + (2 * x943))).bind fun _ =>
  some (.inl (x1043, x1043 + (2 * x943), l1048)))
  else (
  some (.inr (x1042, l1044)))

noncomputable def mSlicesStableCmpFunc_L655 (x7 : Int) (l11 : (List FleetTask)) : (Int × (List Int)) → Option ((Int × (List Int)) ⊕ ((List Int))) := unc2 fun x943 l944 =>
  if x943 < x7 then (
  (chk (2 * x943)).bind fun _ =>
  (loopM (mSlicesStableCmpFunc_L1007 x7 l11 x943) (0, 2 * x943, l944)).bind (unc2 fun x1003 l1004 =>
  ((chk (x1003 + x943)).bind fun _ =>
  if (x1003 + x943) < x7 then (
  (lim (fun N => mSlicesSymMergeCmpFunc N x1003 (x1003 + x943) x7 l11 l1004)).bind fun l1076 =>
  some l1076)
  else (
  some l1004)).bind (fun l1071 =>
  (chk (x943 * 2)).bind fun _ =>
  some (.inl (x943 * 2, l1071)))))
  else (
  some (.inr l944))

/-- slices.stableCmpFunc[int] -/
noncomputable def mSlicesStableCmpFunc (x7 : Int) (l11 : (List FleetTask)) (l12 : (List Int)) : Option ((List Int)) :=
  (loopM (mSlicesStableCmpFunc_L604 x7 l11) (0, 20, l12)).bind (unc2 fun x600 l601 =>
  (mSlicesInsertionSortCmpFunc x600 x7 l11 l601).bind fun l648 =>
  loopM (mSlicesStableCmpFunc_L655 x7 l11) (20, l648))

/-- slices.SortStableFunc[[]int,int] -/
noncomputable def mSlicesSortStableFunc (l10 : (List FleetTask)) (l11 : (List Int)) : Option ((List Int)) :=
  (mSlicesStableCmpFunc (l11.length : Int) l10 l11).bind fun l24 =>
  some l24

noncomputable def mFleetOrder_L103  (k153 : Nat) : ((List Int)) → Option ((List Int)) := fun l151 =>
  (idx l151 (k153 : Int)).bind fun _ =>
  some (put l151 (k153 : Int) (k153 : Int))

/-- fishplate/fleet.order -/
noncomputable def mFleetOrder (l4 : (List FleetTask)) : Option ((List Int)) :=
  (mkLen 8 (l4.length : Int)).bind fun m97 =>
  (forS mFleetOrder_L103 ((List.replicate m97 (0 : Int)).length) 0 (List.replicate m97 (0 : Int))).bind (fun l151 =>
  (mSlicesSortStableFunc l4 l151).bind fun l174 =>
  some l174)

/-- fishplate/fleet.follows -/
noncomputable def mFleetFollows (s1 : FleetTask) (s2 : FleetTask) (x3 : Int) : Option (Bool) :=
  (if s2.From = s1.To then (
  (chk (s1.Arr + x3)).bind fun _ =>
  some (decide ((s1.Arr + x3) ≤ s2.Dep)))
  else (
  some false)).bind (fun x21 =>
  some x21)

noncomputable def mFleetTurns_L23978 (l4 : (List FleetTask)) (x5 : Int) (l23974 : (List (List Int))) (x21087 : Int) (k24884 : Nat) : (Int) → Option (Int) := fun x24883 =>
  (idx l23974 (k24884 : Int)).bind fun x24887 =>
  (chk ((x24887.length : Int) - 1)).bind fun _ =>
  (idx x24887 ((x24887.length : Int) - 1)).bind fun x24908 =>
  (if x24908 ≠ x21087 then (
  (idx l4 x24908).bind fun x25235 =>
  (idx l4 x21087).bind fun x25245 =>
  (mFleetFollows x25235 x25245 x5).bind fun x25255 =>
  if x25255 = true then (
  if x24883 < 0 then (
  some true)
  else (
  (idx l4 x24908).bind fun x25259 =>
  (idx l23974 x24883).bind fun x25269 =>
  (idx l23974 x24883).bind fun x25289 =>
  (chk ((x25289.length : Int) - 1)).bind fun _ =>
  (idx x25269 ((x25289.length : Int) - 1)).bind fun x25310 =>
  (idx l4 x25310).bind fun x25326 =>
  some (decide (x25259.Arr < x25326.Arr))))
  else (
  some false))
  else (
  some false)).bind (fun x25130 =>
  if x25130 = true then (
  some (k24884 : Int))
  else (
  some x24883))

noncomputable def mFleetTurns_L21113 (l4 : (List FleetTask)) (x5 : Int) (x21087 : Int) (_k23975 : Nat) : ((List (List Int))) → Option ((List (List Int))) := fun l23974 =>
  (forS (mFleetTurns_L23978 l4 x5 l23974 x21087) l23974.length 0 (-1)).bind (fun x24883 =>
  (if x24883 < 0 then (
  (room 24 (l23974.length + 1)).bind fun _ =>
  (chk (((l23974 ++ [[]]).length : Int) - 1)).bind fun _ =>
  some (((l23974 ++ [[]]).length : Int) - 1, l23974 ++ [[]]))
  else (
  some (x24883, l23974))).bind (unc2 fun x25352 l25353 =>
  (idx l25353 x25352).bind fun x25363 =>
  (room 8 (x25363.length + 1)).bind fun _ =>
  (idx l25353 x25352).bind fun _ =>
  some (put l25353 x25352 (x25363 ++ [x21087]))))

noncomputable def mFleetTurns_L12718 (l4 : (List FleetTask)) (x5 : Int) (l12710 : (List Int)) (k21084 : Nat) : ((List (List Int))) → Option ((List (List Int))) := fun l21083 =>
  (idx l12710 (k21084 : Int)).bind fun x21087 =>
  (idx l4 x21087).bind fun x21103 =>
  (chk x21103.Units).bind fun _ =>
  (forS (mFleetTurns_L21113 l4 x5 x21087) ((x21103.Units).toNat) 0 l21083).bind (fun l23974 =>
  some l23974)

/-- fishplate/fleet.Turns -/
noncomputable def mFleetTurns (l4 : (List FleetTask)) (x5 : Int) : Option (Int × (List (List Int))) :=
  (mFleetCheckTurn l4 x5).bind fun x12707 =>
  if x12707 ≠ 0 then (
  some (x12707, []))
  else (
  (mFleetOrder l4).bind fun l12710 =>
  (forS (mFleetTurns_L12718 l4 x5 l12710) l12710.length 0 ([] : (List (List Int)))).bind (fun l21083 =>
  some (0, l21083)))

/-- fishplate/fishkeep2.awakeFleet -/
noncomputable def mFishkeep2AwakeFleet : Option (Bool) :=
  (mFleetTurns [(⟨0, 0, 0, 0, 0, 0⟩ : FleetTask)] (-1)).bind (unc2 fun x27 _ =>
  some (decide (x27 ≠ 0)))

noncomputable def mSlicesEqual_L104 (l4 : (List Int)) (l8 : (List Int)) (k149 : Nat) : (Unit) → Option ((Unit) ⊕ (Bool)) := fun _ =>
  (idx l4 (k149 : Int)).bind fun x173 =>
  (idx l8 (k149 : Int)).bind fun x183 =>
  if x173 ≠ x183 then (
  some (.inr false))
  else (
  some (.inl ()))

/-- slices.Equal[[]int,int] -/
noncomputable def mSlicesEqual (l4 : (List Int)) (l8 : (List Int)) : Option (Bool) :=
  if (l4.length : Int) ≠ (l8.length : Int) then (
  some false)
  else (
  (forM (mSlicesEqual_L104 l4 l8) l4.length 0 ()).bind fun t => Sum.elim (fun _ =>
  some true) (fun q => some q) t)

/-- fishplate/fishkeep2.sets -/
noncomputable def mFishkeep2Sets : Option (Bool) :=
  (mFleetTurns [(⟨0, 1, 10, 20, 0, 1⟩ : FleetTask), (⟨1, 0, 25, 29, 0, 1⟩ : FleetTask)] 0).bind (unc2 fun x85 l86 =>
  (if x85 = 0 then (
  if (l86.length : Int) = 1 then (
  (idx l86 0).bind fun x127 =>
  (mSlicesEqual x127 [0, 1]).bind fun x150 =>
  some x150)
  else (
  some false))
  else (
  some false)).bind (fun x123 =>
  some x123))

/-- fishplate/fishref2.within -/
noncomputable def mFishref2Within (x1 : Int) (x2 : Int) (x3 : Int) : Option (Bool) :=
  (if x2 ≤ x1 then (
  some (decide (x1 ≤ x3)))
  else (
  some false)).bind (fun x14 =>
  some x14)

noncomputable def mFishref2TasksFault_L128 (l4 : (List FleetTask)) (k186 : Nat) : (Unit) → Option ((Unit) ⊕ (Int)) := fun _ =>
  (idx l4 (k186 : Int)).bind fun x190 =>
  ((mFishref2Within x190.From 0 11).bind fun x216 =>
  if x216 = true then (
  (mFishref2Within x190.To 0 11).bind fun x219 =>
  if x219 = true then (
  (mFishref2Within x190.Dep 0 28800).bind fun x222 =>
  if x222 = true then (
  (mFishref2Within x190.Arr 0 28800).bind fun x225 =>
  some (!x225))
  else (
  some true))
  else (
  some true))
  else (
  some true)).bind (fun x214 =>
  if x214 = true then (
  some (.inr 2))
  else (
  if x190.Arr ≤ x190.Dep then (
  some (.inr 13))
  else (
  ((mFishref2Within x190.Km 0 10000).bind fun x240 =>
  if x240 = true then (
  (mFishref2Within x190.Units 1 4).bind fun x243 =>
  some (!x243))
  else (
  some true)).bind (fun x238 =>
  if x238 = true then (
  some (.inr 2))
  else (
  some (.inl ()))))))

/-- fishplate/fishref2.TasksFault -/
noncomputable def mFishref2TasksFault (l4 : (List FleetTask)) : Option (Int) :=
  if 40 < (l4.length : Int) then (
  some 4)
  else (
  (forM (mFishref2TasksFault_L128 l4) l4.length 0 ()).bind fun t => Sum.elim (fun _ =>
  some 0) (fun q => some q) t)

/-- fishplate/fishref2.TurnFault -/
noncomputable def mFishref2TurnFault (l4 : (List FleetTask)) (x5 : Int) : Option (Int) :=
  (mFishref2TasksFault l4).bind fun x13 =>
  if x13 ≠ 0 then (
  some x13)
  else (
  (mFishref2Within x5 0 28800).bind fun x16 =>
  if x16 = true then (
  some 0)
  else (
  some 2))

noncomputable def mFleetMoments_L2941 (l4 : (List FleetTask)) (x5 : Int) (k2574 : Nat) (x2931 : FleetTask) (k3029 : Nat) : (Int) → Option (Int) := fun x3028 =>
  (idx l4 (k3029 : Int)).bind fun x3032 =>
  ((if x3032.From = (k2574 : Int) then (
  some (decide (x3032.Dep ≤ x2931.Dep)))
  else (
  some false)).bind (fun x3058 =>
  if x3058 = true then (
  (chk (x3028 + x3032.Units)).bind fun _ =>
  some (x3028 + x3032.Units))
  else (
  some x3028))).bind (fun x3053 =>
  (if x3032.To = (k2574 : Int) then (
  (chk (x3032.Arr + x5)).bind fun _ =>
  some (decide ((x3032.Arr + x5) ≤ x2931.Dep)))
  else (
  some false)).bind (fun x3067 =>
  if x3067 = true then (
  (chk (x3053 - x3032.Units)).bind fun _ =>
  some (x3053 - x3032.Units))
  else (
  some x3053)))

noncomputable def mFleetMoments_L2586 (l4 : (List FleetTask)) (x5 : Int) (k2574 : Nat) (l2578 : (List Int)) (k2912 : Nat) : (Int × Int) → Option (Int × Int) := unc2 fun x2910 x2911 =>
  (idx l2578 (k2912 : Int)).bind fun x2915 =>
  (idx l4 x2915).bind fun x2931 =>
  (forS (mFleetMoments_L2941 l4 x5 k2574 x2931) l4.length 0 0).bind (fun x3028 =>
  if x2911 < x3028 then (
  some (x2931.Dep, x3028))
  else (
  some (x2910, x2911)))

noncomputable def mFleetMoments_L1550 (l4 : (List FleetTask)) (x5 : Int) (k2574 : Nat) : ((List FleetMoment)) → Option ((List FleetMoment)) := fun l2573 =>
  (mFleetOrder l4).bind fun l2578 =>
  (forS (mFleetMoments_L2586 l4 x5 k2574 l2578) l2578.length 0 (0, 0)).bind (unc2 fun x2910 x2911 =>
  if 0 < x2911 then (
  (room 24 (l2573.length + 1)).bind fun _ =>
  some (l2573 ++ [(⟨(k2574 : Int), x2910, x2911⟩ : FleetMoment)]))
  else (
  some l2573))

/-- fishplate/fleet.Moments -/
noncomputable def mFleetMoments (l4 : (List FleetTask)) (x5 : Int) : Option (Int × (List FleetMoment)) :=
  (mFleetCheckTurn l4 x5).bind fun x1547 =>
  if x1547 ≠ 0 then (
  some (x1547, []))
  else (
  (forS (mFleetMoments_L1550 l4 x5) 12 0 ([] : (List FleetMoment))).bind (fun l2573 =>
  some (0, l2573)))

noncomputable def mSlicesIndex_L39 (l4 : (List Int)) (x5 : Int) (k54 : Nat) : (Unit) → Option ((Unit) ⊕ (Int)) := fun _ =>
  (idx l4 (k54 : Int)).bind fun x58 =>
  if x5 = x58 then (
  some (.inr (k54 : Int)))
  else (
  some (.inl ()))

/-- slices.Index[[]int,int] -/
noncomputable def mSlicesIndex (l4 : (List Int)) (x5 : Int) : Option (Int) :=
  (forM (mSlicesIndex_L39 l4 x5) l4.length 0 ()).bind fun t => Sum.elim (fun _ =>
  some (-1)) (fun q => some q) t

/-- slices.Contains[[]int,int] -/
noncomputable def mSlicesContains (l4 : (List Int)) (x5 : Int) : Option (Bool) :=
  (mSlicesIndex l4 x5).bind fun x9 =>
  some (decide (0 ≤ x9))

noncomputable def mFleetLegal_L3530 (l4 : (List FleetTask)) (x5 : Int) (x3517 : (List Int)) (k3960 : Nat) : ((List Int)) → Option (((List Int)) ⊕ (((List Int)) ⊕ (Int))) := fun l3958 =>
  (idx x3517 (k3960 : Int)).bind fun x3964 =>
  (chk ((l4.length : Int) - 1)).bind fun _ =>
  (mFleetWithin x3964 0 ((l4.length : Int) - 1)).bind fun x3975 =>
  if x3975 = true then (
  (cutS x3517 0 (k3960 : Int)).bind fun l3980 =>
  (mSlicesContains l3980 x3964).bind fun x3995 =>
  if x3995 = true then (
  some (.inr (.inr 6)))
  else (
  (if 0 < (k3960 : Int) then (
  (chk ((k3960 : Int) - 1)).bind fun _ =>
  (idx x3517 ((k3960 : Int) - 1)).bind fun x4108 =>
  (idx l4 x4108).bind fun x4118 =>
  (idx l4 x3964).bind fun x4128 =>
  (mFleetFollows x4118 x4128 x5).bind fun x4138 =>
  some (!x4138))
  else (
  some false)).bind (fun x4070 =>
  if x4070 = true then (
  some (.inr (.inr 13)))
  else (
  (idx l3958 x3964).bind fun x4143 =>
  (chk (x4143 + 1)).bind fun _ =>
  (idx l3958 x3964).bind fun _ =>
  some (.inl (put l3958 x3964 (x4143 + 1)))))))
  else (
  some (.inr (.inr 2)))

noncomputable def mFleetLegal_L4180 (l4 : (List FleetTask)) (l3511 : (List Int)) (k4261 : Nat) : (Unit) → Option ((Unit) ⊕ (Int)) := fun _ =>
  (idx l4 (k4261 : Int)).bind fun x4265 =>
  (idx l3511 (k4261 : Int)).bind fun x4292 =>
  if x4265.Units < x4292 then (
  some (.inr 4))
  else (
  (idx l3511 (k4261 : Int)).bind fun x4326 =>
  if x4326 < x4265.Units then (
  some (.inr 9))
  else (
  some (.inl ())))

noncomputable def mFleetLegal_L2187 (l4 : (List FleetTask)) (l9 : (List (List Int))) (x5 : Int) (k3513 : Nat) : ((List Int)) → Option (((List Int)) ⊕ (Int)) := fun l3511 =>
  (idx l9 (k3513 : Int)).bind fun x3517 =>
  (forM (mFleetLegal_L3530 l4 x5 x3517) x3517.length 0 l3511).bind fun t => Sum.elim (fun l3958 =>
  some (.inl l3958)) (fun q => some q) t

/-- fishplate/fleet.Legal -/
noncomputable def mFleetLegal (l4 : (List FleetTask)) (x5 : Int) (l9 : (List (List Int))) : Option (Int) :=
  (mFleetCheckTurn l4 x5).bind fun x2178 =>
  if x2178 ≠ 0 then (
  some x2178)
  else (
  (mkLen 8 (l4.length : Int)).bind fun m2181 =>
  (forM (mFleetLegal_L2187 l4 l9 x5) l9.length 0 (List.replicate m2181 (0 : Int))).bind fun t => Sum.elim (fun l3511 =>
  (forM (mFleetLegal_L4180 l4 l3511) l4.length 0 ()).bind fun t => Sum.elim (fun _ =>
  some 0) (fun q => some q) t) (fun q => some q) t)

noncomputable def mFishkeep2FleetEnough_L313 (l4 : (List FleetTask)) (k368 : Nat) : ((List FleetTask)) → Option ((List FleetTask)) := fun l367 =>
  (idx l4 (k368 : Int)).bind fun x371 =>
  (chk (28800 - x371.Arr)).bind fun _ =>
  (chk (28800 - x371.Dep)).bind fun _ =>
  (room 48 (l367.length + 1)).bind fun _ =>
  some (l367 ++ [(⟨x371.To, x371.From, 28800 - x371.Arr, 28800 - x371.Dep, x371.Km, x371.Units⟩ : FleetTask)])

noncomputable def mFishkeep2FleetEnough_L235 (l227 : (List FleetMoment)) (k277 : Nat) : (Int) → Option (Int) := fun x276 =>
  (idx l227 (k277 : Int)).bind fun x280 =>
  (chk (x276 + x280.Short)).bind fun _ =>
  some (x276 + x280.Short)

/-- fishplate/fishkeep2.FleetEnough -/
noncomputable def mFishkeep2FleetEnough (l4 : (List FleetTask)) (x5 : Int) : Option (Bool) :=
  (mFishkeep2AwakeFleet).bind fun x208 =>
  if x208 = true then (
  (mFishkeep2Sets).bind fun x211 =>
  if x211 = true then (
  (mFishref2TurnFault l4 x5).bind fun x214 =>
  if x214 ≠ 0 then (
  some true)
  else (
  (mFleetTurns l4 x5).bind (unc2 fun x217 l218 =>
  (mFleetMoments l4 x5).bind (unc2 fun x226 l227 =>
  (forS (mFishkeep2FleetEnough_L235 l227) l227.length 0 0).bind (fun x276 =>
  (if x217 ≠ 0 then (
  some true)
  else (
  if x226 ≠ 0 then (
  some true)
  else (
  if x276 ≠ (l218.length : Int) then (
  some true)
  else (
  (mFleetLegal l4 x5 l218).bind fun x310 =>
  some (decide (x310 ≠ 0)))))).bind (fun x305 =>
  if x305 = true then (
  some false)
  else (
  (forS (mFishkeep2FleetEnough_L313 l4) l4.length 0 ([] : (List FleetTask))).bind (fun l367 =>
  (mFleetTurns l367 x5).bind (unc2 fun x394 l395 =>
  (if x394 = 0 then (
  some (decide ((l395.length : Int) = (l218.length : Int))))
  else (
  some false)).bind (fun x406 =>
  some x406))))))))))
  else (
  some false))
  else (
  some false)

end Go.Proofs.Ytajmocgpjkhjlaa
