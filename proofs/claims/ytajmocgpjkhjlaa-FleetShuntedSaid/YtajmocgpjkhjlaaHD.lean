/- The models of the functions, as the extractor printed them. -/
import Derived.Test.YtajmocgpjkhjlaaXA
import Derived.Test.YtajmocgpjkhjlaaXL
set_option linter.unusedVariables false
set_option linter.unusedSimpArgs false
namespace Go.Proofs.Ytajmocgpjkhjlaa
open Go.RowKit Go.Fp

structure FleetDepot where
  Room : (List Int)
  Tracks : (List (List Int))
def rFleetDepot : RT FleetDepot := (RT.cat (RT.on (RT.list (RT.int .i64)) FleetDepot.Room) (RT.on (RT.list (RT.list (RT.int .i64))) FleetDepot.Tracks))
structure FleetTask where
  From : Int
  To : Int
  Dep : Int
  Arr : Int
  Km : Int
  Units : Int
  deriving DecidableEq
def rFleetTask : RT FleetTask := (RT.cat (RT.on (RT.int .i64) FleetTask.From) (RT.cat (RT.on (RT.int .i64) FleetTask.To) (RT.cat (RT.on (RT.int .i64) FleetTask.Dep) (RT.cat (RT.on (RT.int .i64) FleetTask.Arr) (RT.cat (RT.on (RT.int .i64) FleetTask.Km) (RT.on (RT.int .i64) FleetTask.Units))))))
structure FleetMove where
  From : Int
  To : Int
  deriving DecidableEq
def rFleetMove : RT FleetMove := (RT.cat (RT.on (RT.int .i64) FleetMove.From) (RT.on (RT.int .i64) FleetMove.To))
structure FleetTry where
  depot : FleetDepot
  left : Int
  moves : (List FleetMove)
def rFleetTry : RT FleetTry := (RT.cat (RT.on rFleetDepot FleetTry.depot) (RT.cat (RT.on (RT.int .i64) FleetTry.left) (RT.on (RT.list rFleetMove) FleetTry.moves)))

/-- fishplate/fleet.within -/
noncomputable def mFleetWithin (x1 : Int) (x2 : Int) (x3 : Int) : Option (Bool) :=
  (if x2 ≤ x1 then (
  some (decide (x1 ≤ x3)))
  else (
  some false)).bind (fun x14 =>
  some x14)

noncomputable def mFleetCheckTasks_L128 (l4 : (List FleetTask)) (k186 : Nat) : (Unit) → Option ((Unit) ⊕ (Int)) := fun _ =>
  (idx l4 (k186 : Int)).bind fun x190 =>
  ((mFleetWithin x190.From 0 11).bind fun x216 =>
  if x216 = true then (
  (mFleetWithin x190.To 0 11).bind fun x219 =>
  if x219 = true then (
  (mFleetWithin x190.Dep 0 28800).bind fun x222 =>
  if x222 = true then (
  (mFleetWithin x190.Arr 0 28800).bind fun x225 =>
  some (!x225))
  else (
  some true))
  else (
  some true))
  else (
  some true)).bind (fun x214 =>
  if x214 = true then (
  some (.inr 2))
  else (
  if x190.Arr ≤ x190.Dep then (
  some (.inr 13))
  else (
  ((mFleetWithin x190.Km 0 10000).bind fun x240 =>
  if x240 = true then (
  (mFleetWithin x190.Units 1 4).bind fun x243 =>
  some (!x243))
  else (
  some true)).bind (fun x238 =>
  if x238 = true then (
  some (.inr 2))
  else (
  some (.inl ()))))))

/-- fishplate/fleet.CheckTasks -/
noncomputable def mFleetCheckTasks (l4 : (List FleetTask)) : Option (Int) :=
  if 40 < (l4.length : Int) then (
  some 4)
  else (
  (forM (mFleetCheckTasks_L128 l4) l4.length 0 ()).bind fun t => Sum.elim (fun _ =>
  some 0) (fun q => some q) t)

/-- fishplate/fleet.checkTurn -/
noncomputable def mFleetCheckTurn (l4 : (List FleetTask)) (x5 : Int) : Option (Int) :=
  (mFleetCheckTasks l4).bind fun x13 =>
  if x13 ≠ 0 then (
  some x13)
  else (
  (mFleetWithin x5 0 28800).bind fun x16 =>
  if x16 = true then (
  some 0)
  else (
  some 2))

/-- cmp.isNaN[int] -/
noncomputable def mCmpIsNaN (x1 : Int) : Option (Bool) :=
  some (decide (x1 ≠ x1))

/-- cmp.Compare[int] -/
noncomputable def mCmpCompare (x1 : Int) (x2 : Int) : Option (Int) :=
  (mCmpIsNaN x1).bind fun x13 =>
  (mCmpIsNaN x2).bind fun x15 =>
  if x13 = true then (
  if x15 = true then (
  some 0)
  else (
  some (-1)))
  else (
  if x15 = true then (
  some 1)
  else (
  if x1 < x2 then (
  some (-1))
  else (
  if x2 < x1 then (
  some 1)
  else (
  some 0))))

/-- fishplate/fleet.order-1 -/
noncomputable def mFleetOrder_1 (x2 : Int) (x3 : Int) (l7 : (List FleetTask)) : Option (Int) :=
  (idx l7 x2).bind fun x75 =>
  (idx l7 x3).bind fun x85 =>
  (mCmpCompare x75.Dep x85.Dep).bind fun x95 =>
  some x95

noncomputable def mSlicesInsertionSortCmpFunc_L10142 (x7 : Int) (l12 : (List FleetTask)) : (Int × (List Int)) → Option ((Int × (List Int)) ⊕ ((List Int))) := unc2 fun x10752 l10753 =>
  (if x7 < x10752 then (
  (idx l10753 x10752).bind fun x10874 =>
  (chk (x10752 - 1)).bind fun _ =>
  (idx l10753 (x10752 - 1)).bind fun x10891 =>
  (mFleetOrder_1 x10874 x10891 l12).bind fun x10907 =>
  some (decide (x10907 < 0)))
  else (
  some false)).bind (fun x10833 =>
  if x10833 = true then (
  (chk (x10752 - 1)).bind fun _ =>
  (chk (x10752 - 1)).bind fun _ =>
  (idx l10753 (x10752 - 1)).bind fun x10984 =>
  (idx l10753 x10752).bind fun x11000 =>
  (idx l10753 x10752).bind fun _ =>
  (idx (put l10753 x10752 x10984) (x10752 - 1)).bind fun _ =>
  (chk (x10752 - 1)).bind fun _ =>
  some (.inl (x10752 - 1, put (put l10753 x10752 x10984) (x10752 - 1) x11000)))
  else (
  some (.inr l10753)))

noncomputable def mSlicesInsertionSortCmpFunc_L5538 (x7 : Int) (x8 : Int) (l12 : (List FleetTask)) : (Int × (List Int)) → Option ((Int × (List Int)) ⊕ ((List Int))) := unc2 fun x9218 l9219 =>
  if x9218 < x8 then (
  (loopM (mSlicesInsertionSortCmpFunc_L10142 x7 l12) (x9218, l9219)).bind (fun l10139 =>
  (chk (x9218 + 1)).bind fun _ =>
  some (.inl (x9218 + 1, l10139))))
  else (
  some (.inr l9219))

/-- slices.insertionSortCmpFunc[int] -/
noncomputable def mSlicesInsertionSortCmpFunc (x7 : Int) (x8 : Int) (l12 : (List FleetTask)) (l13 : (List Int)) : Option ((List Int)) :=
  (chk (x7 + 1)).bind fun _ =>
  loopM (mSlicesInsertionSortCmpFunc_L5538 x7 x8 l12) (x7 + 1, l13)

noncomputable def mSlicesSwapRangeCmpFunc_L476 (x7 : Int) (x8 : Int) (x9 : Int) : (Int × (List Int)) → Option ((Int × (List Int)) ⊕ ((List Int))) := unc2 fun x782 l783 =>
  if x782 < x9 then (
  (chk (x7 + x782)).bind fun _ =>
  (chk (x8 + x782)).bind fun _ =>
  (chk (x8 + x782)).bind fun _ =>
  (idx l783 (x8 + x782)).bind fun x861 =>
  (chk (x7 + x782)).bind fun _ =>
  (idx l783 (x7 + x782)).bind fun x878 =>
  (idx l783 (x7 + x782)).bind fun _ =>
  (idx (put l783 (x7 + x782) x861) (x8 + x782)).bind fun _ =>
  (chk (x782 + 1)).bind fun _ =>
  some (.inl (x782 + 1, put (put l783 (x7 + x782) x861) (x8 + x782) x878)))
  else (
  some (.inr l783))

/-- slices.swapRangeCmpFunc[int] -/
noncomputable def mSlicesSwapRangeCmpFunc (x7 : Int) (x8 : Int) (x9 : Int) (_l13 : (List FleetTask)) (l14 : (List Int)) : Option ((List Int)) :=
  loopM (mSlicesSwapRangeCmpFunc_L476 x7 x8 x9) (0, l14)

noncomputable def mSlicesRotateCmpFunc_L299 (x8 : Int) (l13 : (List FleetTask)) : (Int × Int × (List Int)) → Option ((Int × Int × (List Int)) ⊕ (Int × (List Int))) := unc3 fun x356 x357 l358 =>
  if x356 ≠ x357 then (
  if x357 < x356 then (
  (chk (x8 - x356)).bind fun _ =>
  (mSlicesSwapRangeCmpFunc (x8 - x356) x8 x357 l13 l358).bind fun l363 =>
  (chk (x356 - x357)).bind fun _ =>
  some (.inl (x356 - x357, x357, l363)))
  else (
  (chk (x8 - x356)).bind fun _ =>
  (chk (x8 + x357)).bind fun _ =>
  (chk ((x8 + x357) - x356)).bind fun _ =>
  (mSlicesSwapRangeCmpFunc (x8 - x356) ((x8 + x357) - x356) x356 l13 l358).bind fun l374 =>
  (chk (x357 - x356)).bind fun _ =>
  some (.inl (x356, x357 - x356, l374))))
  else (
  some (.inr (x356, l358)))

/-- slices.rotateCmpFunc[int] -/
noncomputable def mSlicesRotateCmpFunc (x7 : Int) (x8 : Int) (x9 : Int) (l13 : (List FleetTask)) (l14 : (List Int)) : Option ((List Int)) :=
  (chk (x8 - x7)).bind fun _ =>
  (chk (x9 - x8)).bind fun _ =>
  (loopM (mSlicesRotateCmpFunc_L299 x8 l13) (x8 - x7, x9 - x8, l14)).bind (unc2 fun x295 l296 =>
  (chk (x8 - x295)).bind fun _ =>
  (mSlicesSwapRangeCmpFunc (x8 - x295) x8 x295 l13 l296).bind fun l383 =>
  some l383)

noncomputable def mSlicesSymMergeCmpFunc_L6951 (x7 : Int) (l13 : (List FleetTask)) (l14 : (List Int)) : (Int × Int) → Option ((Int × Int) ⊕ (Int)) := unc2 fun x7110 x7111 =>
  if x7110 < x7111 then (
  (chk (x7110 + x7111)).bind fun _ =>
  (shN 1).bind fun _ =>
  (idx l14 (IntKind.wrap .i64 (shrI .u64 (IntKind.wrap .u64 (x7110 + x7111)) 1))).bind fun x7151 =>
  (idx l14 x7).bind fun x7167 =>
  (mFleetOrder_1 x7151 x7167 l13).bind fun x7183 =>
  if x7183 < 0 then (
  (chk ((IntKind.wrap .i64 (shrI .u64 (IntKind.wrap .u64 (x7110 + x7111)) 1)) + 1)).bind fun _ =>
  some (.inl ((IntKind.wrap .i64 (shrI .u64 (IntKind.wrap .u64 (x7110 + x7111)) 1)) + 1, x7111)))
  else (
  some (.inl (x7110, IntKind.wrap .i64 (shrI .u64 (IntKind.wrap .u64 (x7110 + x7111)) 1)))))
  else (
  some (.inr x7110))

noncomputable def mSlicesSymMergeCmpFunc_L7644 (x6949 : Int) : (Int × (List Int)) → Option ((Int × (List Int)) ⊕ ((List Int))) := unc2 fun x7944 l7945 =>
  (chk (x6949 - 1)).bind fun _ =>
  if x7944 < (x6949 - 1) then (
  (chk (x7944 + 1)).bind fun _ =>
  (chk (x7944 + 1)).bind fun _ =>
  (idx l7945 (x7944 + 1)).bind fun x8021 =>
  (idx l7945 x7944).bind fun x8037 =>
  (idx l7945 x7944).bind fun _ =>
  (idx (put l7945 x7944 x8021) (x7944 + 1)).bind fun _ =>
  (chk (x7944 + 1)).bind fun _ =>
  some (.inl (x7944 + 1, put (put l7945 x7944 x8021) (x7944 + 1) x8037)))
  else (
  some (.inr l7945))

noncomputable def mSlicesSymMergeCmpFunc_L8335 (x8 : Int) (l13 : (List FleetTask)) (l14 : (List Int)) : (Int × Int) → Option ((Int × Int) ⊕ (Int)) := unc2 fun x8494 x8495 =>
  if x8494 < x8495 then (
  (chk (x8494 + x8495)).bind fun _ =>
  (shN 1).bind fun _ =>
  (idx l14 x8).bind fun x8535 =>
  (idx l14 (IntKind.wrap .i64 (shrI .u64 (IntKind.wrap .u64 (x8494 + x8495)) 1))).bind fun x8551 =>
  (mFleetOrder_1 x8535 x8551 l13).bind fun x8567 =>
  if x8567 < 0 then (
  some (.inl (x8494, IntKind.wrap .i64 (shrI .u64 (IntKind.wrap .u64 (x8494 + x8495)) 1))))
  else (
  (chk ((IntKind.wrap .i64 (shrI .u64 (IntKind.wrap .u64 (x8494 + x8495)) 1)) + 1)).bind fun _ =>
  some (.inl ((IntKind.wrap .i64 (shrI .u64 (IntKind.wrap .u64 (x8494 + x8495)) 1)) + 1, x8495))))
  else (
  some (.inr x8494))

noncomputable def mSlicesSymMergeCmpFunc_L9025 (x8333 : Int) : (Int × (List Int)) → Option ((Int × (List Int)) ⊕ ((List Int))) := unc2 fun x9323 l9324 =>
  if x8333 < x9323 then (
  (chk (x9323 - 1)).bind fun _ =>
  (chk (x9323 - 1)).bind fun _ =>
  (idx l9324 (x9323 - 1)).bind fun x9399 =>
  (idx l9324 x9323).bind fun x9415 =>
  (idx l9324 x9323).bind fun _ =>
  (idx (put l9324 x9323 x9399) (x9323 - 1)).bind fun _ =>
  (chk (x9323 - 1)).bind fun _ =>
  some (.inl (x9323 - 1, put (put l9324 x9323 x9399) (x9323 - 1) x9415)))
  else (
  some (.inr l9324))

noncomputable def mSlicesSymMergeCmpFunc_L9730 (x7 : Int) (x8 : Int) (x9 : Int) (l13 : (List FleetTask)) (l14 : (List Int)) : (Int × Int) → Option ((Int × Int) ⊕ (Int)) := unc2 fun x9893 x9894 =>
  if x9893 < x9894 then (
  (chk (x9893 + x9894)).bind fun _ =>
  (shN 1).bind fun _ =>
  (chk ((((IntKind.wrap .i64 (shrI .u64 (IntKind.wrap .u64 (x7 + x9)) 1)) + x8) - 1) - (IntKind.wrap .i64 (shrI .u64 (IntKind.wrap .u64 (x9893 + x9894)) 1)))).bind fun _ =>
  (idx l14 ((((IntKind.wrap .i64 (shrI .u64 (IntKind.wrap .u64 (x7 + x9)) 1)) + x8) - 1) - (IntKind.wrap .i64 (shrI .u64 (IntKind.wrap .u64 (x9893 + x9894)) 1)))).bind fun x9936 =>
  (idx l14 (IntKind.wrap .i64 (shrI .u64 (IntKind.wrap .u64 (x9893 + x9894)) 1))).bind fun x9952 =>
  (mFleetOrder_1 x9936 x9952 l13).bind fun x9968 =>
  if x9968 < 0 then (
  some (.inl (x9893, IntKind.wrap .i64 (shrI .u64 (IntKind.wrap .u64 (x9893 + x9894)) 1))))
  else (
  (chk ((IntKind.wrap .i64 (shrI .u64 (IntKind.wrap .u64 (x9893 + x9894)) 1)) + 1)).bind fun _ =>
  some (.inl ((IntKind.wrap .i64 (shrI .u64 (IntKind.wrap .u64 (x9893 + x9894)) 1)) + 1, x9894))))
  else (
  some (.inr x9893))

/-- slices.symMergeCmpFunc[int] -/
noncomputable def mSlicesSymMergeCmpFunc : Nat → (Int) → (Int) → (Int) → ((List FleetTask)) → ((List Int)) → Option ((List Int))
  | 0 => fun _ _ _ _ _ => none
  | N + 1 => fun x7 x8 x9 l13 l14 =>
  (chk (x8 - x7)).bind fun _ =>
  if (x8 - x7) = 1 then (
  (loopM (mSlicesSymMergeCmpFunc_L6951 x7 l13 l14) (x8, x9)).bind (fun x6949 =>
  (loopM (mSlicesSymMergeCmpFunc_L7644 x6949) (x7, l14)).bind (fun l7641 =>
  some l7641)))
  else (
  (chk (x9 - x8)).bind fun _ =>
  if (x9 - x8) = 1 then (
  (loopM (mSlicesSymMergeCmpFunc_L8335 x8 l13 l14) (x7, x8)).bind (fun x8333 =>
  (loopM (mSlicesSymMergeCmpFunc_L9025 x8333) (x8, l14)).bind (fun l9022 =>
  some l9022)))
  else (
  (chk (x7 + x9)).bind fun _ =>
  (shN 1).bind fun _ =>
  (chk ((IntKind.wrap .i64 (shrI .u64 (IntKind.wrap .u64 (x7 + x9)) 1)) + x8)).bind fun _ =>
  (if (IntKind.wrap .i64 (shrI .u64 (IntKind.wrap .u64 (x7 + x9)) 1)) < x8 then (
  (chk (((IntKind.wrap .i64 (shrI .u64 (IntKind.wrap .u64 (x7 + x9)) 1)) + x8) - x9)).bind fun _ =>
  some (((IntKind.wrap .i64 (shrI .u64 (IntKind.wrap .u64 (x7 + x9)) 1)) + x8) - x9, IntKind.wrap .i64 (shrI .u64 (IntKind.wrap .u64 (x7 + x9)) 1)))
  else (
  some (x7, x8))).bind (unc2 fun x9476 x9477 =>
  (chk (((IntKind.wrap .i64 (shrI .u64 (IntKind.wrap .u64 (x7 + x9)) 1)) + x8) - 1)).bind fun _ =>
  (loopM (mSlicesSymMergeCmpFunc_L9730 x7 x8 x9 l13 l14) (x9476, x9477)).bind (fun x9728 =>
  (chk (((IntKind.wrap .i64 (shrI .u64 (IntKind.wrap .u64 (x7 + x9)) 1)) + x8) - x9728)).bind fun _ =>
  ((if x9728 < x8 then (
  some (decide (x8 < (((IntKind.wrap .i64 (shrI .u64 (IntKind.wrap .u64 (x7 + x9)) 1)) + x8) - x9728))))
  else (
  some false)).bind (fun x10000 =>
  if x10000 = true then (
  (mSlicesRotateCmpFunc x9728 x8 (((IntKind.wrap .i64 (shrI .u64 (IntKind.wrap .u64 (x7 + x9)) 1)) + x8) - x9728) l13 l14).bind fun l10004 =>
  some l10004)
  else (
  some l14))).bind (fun l9994 =>
  ((if x7 < x9728 then (
  some (decide (x9728 < (IntKind.wrap .i64 (shrI .u64 (IntKind.wrap .u64 (x7 + x9)) 1)))))
  else (
  some false)).bind (fun x10036 =>
  if x10036 = true then (
  ((mSlicesSymMergeCmpFunc N) x7 x9728 (IntKind.wrap .i64 (shrI .u64 (IntKind.wrap .u64 (x7 + x9)) 1)) l13 l9994).bind fun l10040 =>
  some l10040)
  else (
  some l9994))).bind (fun l10030 =>
  (if (IntKind.wrap .i64 (shrI .u64 (IntKind.wrap .u64 (x7 + x9)) 1)) < (((IntKind.wrap .i64 (shrI .u64 (IntKind.wrap .u64 (x7 + x9)) 1)) + x8) - x9728) then (
  some (decide ((((IntKind.wrap .i64 (shrI .u64 (IntKind.wrap .u64 (x7 + x9)) 1)) + x8) - x9728) < x9)))
  else (
  some false)).bind (fun x10050 =>
  if x10050 = true then (
  ((mSlicesSymMergeCmpFunc N) (IntKind.wrap .i64 (shrI .u64 (IntKind.wrap .u64 (x7 + x9)) 1)) (((IntKind.wrap .i64 (shrI .u64 (IntKind.wrap .u64 (x7 + x9)) 1)) + x8) - x9728) x9 l13 l10030).bind fun l10054 =>
  some l10054)
  else (
  some l10030))))))))

noncomputable def mSlicesStableCmpFunc_L604 (x7 : Int) (l11 : (List FleetTask)) : (Int × Int × (List Int)) → Option ((Int × Int × (List Int)) ⊕ (Int × (List Int))) := unc3 fun x635 x636 l637 =>
  if x636 ≤ x7 then (
  (mSlicesInsertionSortCmpFunc x635 x636 l11 l637).bind fun l640 =>
  (chk (x636 + 20)).bind fun _ =>
  some (.inl (x636, x636 + 20, l640)))
  else (
  some (.inr (x635, l637)))

noncomputable def mSlicesStableCmpFunc_L1007 (x7 : Int) (l11 : (List FleetTask)) (x943 : Int) : (Int × Int × (List Int)) → Option ((Int × Int × (List Int)) ⊕ (Int × (List Int))) := unc3 fun x1042 x1043 l1044 =>
  if x1043 ≤ x7 then (
  (chk (x1042 + x943)).bind fun _ =>
  (lim (fun N => mSlicesSymMergeCmpFunc N x1042 (x1042 + x943) x1043 l11 l1044)).bind fun l1048 =>
  (chk (2 * x943)).bind fun _ =>
  (chk (x1043 + (2 * x943))).bind fun _ =>
  some (.inl (x1043, x1043 + (2 * x943), l1048)))
  else (
  some (.inr (x1042, l1044)))

noncomputable def mSlicesStableCmpFunc_L655 (x7 : Int) (l11 : (List FleetTask)) : (Int × (List Int)) → Option ((Int × (List Int)) ⊕ ((List Int))) := unc2 fun x943 l944 =>
  if x943 < x7 then (
  (chk (2 * x943)).bind fun _ =>
  (loopM (mSlicesStableCmpFunc_L1007 x7 l11 x943) (0, 2 * x943, l944)).bind (unc2 fun x1003 l1004 =>
  ((chk (x1003 + x943)).bind fun _ =>
  if (x1003 + x943) < x7 then (
  (lim (fun N => mSlicesSymMergeCmpFunc N x1003 (x1003 + x943) x7 l11 l1004)).bind fun l1076 =>
  some l1076)
  else (
  some l1004)).bind (fun l1071 =>
  (chk (x943 * 2)).bind fun _ =>
  some (.inl (x943 * 2, l1071)))))
  else (
  some (.inr l944))

/-- slices.stableCmpFunc[int] -/
noncomputable def mSlicesStableCmpFunc (x7 : Int) (l11 : (List FleetTask)) (l12 : (List Int)) : Option ((List Int)) :=
  (loopM (mSlicesStableCmpFunc_L604 x7 l11) (0, 20, l12)).bind (unc2 fun x600 l601 =>
  (mSlicesInsertionSortCmpFunc x600 x7 l11 l601).bind fun l648 =>
  loopM (mSlicesStableCmpFunc_L655 x7 l11) (20, l648))

/-- slices.SortStableFunc[[]int,int] -/
noncomputable def mSlicesSortStableFunc (l10 : (List FleetTask)) (l11 : (List Int)) : Option ((List Int)) :=
  (mSlicesStableCmpFunc (l11.length : Int) l10 l11).bind fun l24 =>
  some l24

noncomputable def mFleetOrder_L103  (k153 : Nat) : ((List Int)) → Option ((List Int)) := fun l151 =>
  (idx l151 (k153 : Int)).bind fun _ =>
  some (put l151 (k153 : Int) (k153 : Int))

/-- fishplate/fleet.order -/
noncomputable def mFleetOrder (l4 : (List FleetTask)) : Option ((List Int)) :=
  (mkLen 8 (l4.length : Int)).bind fun m97 =>
  (forS mFleetOrder_L103 ((List.replicate m97 (0 : Int)).length) 0 (List.replicate m97 (0 : Int))).bind (fun l151 =>
  (mSlicesSortStableFunc l4 l151).bind fun l174 =>
  some l174)

/-- fishplate/fleet.follows -/
noncomputable def mFleetFollows (s1 : FleetTask) (s2 : FleetTask) (x3 : Int) : Option (Bool) :=
  (if s2.From = s1.To then (
  (chk (s1.Arr + x3)).bind fun _ =>
  some (decide ((s1.Arr + x3) ≤ s2.Dep)))
  else (
  some false)).bind (fun x21 =>
  some x21)

noncomputable def mFleetTurns_L23978 (l4 : (List FleetTask)) (x5 : Int) (l23974 : (List (List Int))) (x21087 : Int) (k24884 : Nat) : (Int) → Option (Int) := fun x24883 =>
  (idx l23974 (k24884 : Int)).bind fun x24887 =>
  (chk ((x24887.length : Int) - 1)).bind fun _ =>
  (idx x24887 ((x24887.length : Int) - 1)).bind fun x24908 =>
  (if x24908 ≠ x21087 then (
  (idx l4 x24908).bind fun x25235 =>
  (idx l4 x21087).bind fun x25245 =>
  (mFleetFollows x25235 x25245 x5).bind fun x25255 =>
  if x25255 = true then (
  if x24883 < 0 then (
  some true)
  else (
  (idx l4 x24908).bind fun x25259 =>
  (idx l23974 x24883).bind fun x25269 =>
  (idx l23974 x24883).bind fun x25289 =>
  (chk ((x25289.length : Int) - 1)).bind fun _ =>
  (idx x25269 ((x25289.length : Int) - 1)).bind fun x25310 =>
  (idx l4 x25310).bind fun x25326 =>
  some (decide (x25259.Arr < x25326.Arr))))
  else (
  some false))
  else (
  some false)).bind (fun x25130 =>
  if x25130 = true then (
  some (k24884 : Int))
  else (
  some x24883))

noncomputable def mFleetTurns_L21113 (l4 : (List FleetTask)) (x5 : Int) (x21087 : Int) (_k23975 : Nat) : ((List (List Int))) → Option ((List (List Int))) := fun l23974 =>
  (forS (mFleetTurns_L23978 l4 x5 l23974 x21087) l23974.length 0 (-1)).bind (fun x24883 =>
  (if x24883 < 0 then (
  (room 24 (l23974.length + 1)).bind fun _ =>
  (chk (((l23974 ++ [[]]).length : Int) - 1)).bind fun _ =>
  some (((l23974 ++ [[]]).length : Int) - 1, l23974 ++ [[]]))
  else (
  some (x24883, l23974))).bind (unc2 fun x25352 l25353 =>
  (idx l25353 x25352).bind fun x25363 =>
  (room 8 (x25363.length + 1)).bind fun _ =>
  (idx l25353 x25352).bind fun _ =>
  some (put l25353 x25352 (x25363 ++ [x21087]))))

noncomputable def mFleetTurns_L12718 (l4 : (List FleetTask)) (x5 : Int) (l12710 : (List Int)) (k21084 : Nat) : ((List (List Int))) → Option ((List (List Int))) := fun l21083 =>
  (idx l12710 (k21084 : Int)).bind fun x21087 =>
  (idx l4 x21087).bind fun x21103 =>
  (chk x21103.Units).bind fun _ =>
  (forS (mFleetTurns_L21113 l4 x5 x21087) ((x21103.Units).toNat) 0 l21083).bind (fun l23974 =>
  some l23974)

/-- fishplate/fleet.Turns -/
noncomputable def mFleetTurns (l4 : (List FleetTask)) (x5 : Int) : Option (Int × (List (List Int))) :=
  (mFleetCheckTurn l4 x5).bind fun x12707 =>
  if x12707 ≠ 0 then (
  some (x12707, []))
  else (
  (mFleetOrder l4).bind fun l12710 =>
  (forS (mFleetTurns_L12718 l4 x5 l12710) l12710.length 0 ([] : (List (List Int)))).bind (fun l21083 =>
  some (0, l21083)))

/-- fishplate/fishkeep2.awakeFleet -/
noncomputable def mFishkeep2AwakeFleet : Option (Bool) :=
  (mFleetTurns [(⟨0, 0, 0, 0, 0, 0⟩ : FleetTask)] (-1)).bind (unc2 fun x31 _ =>
  some (decide (x31 ≠ 0)))

noncomputable def mSlicesEqual_L104 (l4 : (List Int)) (l8 : (List Int)) (k149 : Nat) : (Unit) → Option ((Unit) ⊕ (Bool)) := fun _ =>
  (idx l4 (k149 : Int)).bind fun x173 =>
  (idx l8 (k149 : Int)).bind fun x183 =>
  if x173 ≠ x183 then (
  some (.inr false))
  else (
  some (.inl ()))

/-- slices.Equal[[]int,int] -/
noncomputable def mSlicesEqual (l4 : (List Int)) (l8 : (List Int)) : Option (Bool) :=
  if (l4.length : Int) ≠ (l8.length : Int) then (
  some false)
  else (
  (forM (mSlicesEqual_L104 l4 l8) l4.length 0 ()).bind fun t => Sum.elim (fun _ =>
  some true) (fun q => some q) t)

/-- fishplate/fishkeep2.sets -/
noncomputable def mFishkeep2Sets : Option (Bool) :=
  (mFleetTurns [(⟨0, 1, 10, 20, 0, 1⟩ : FleetTask), (⟨1, 0, 25, 29, 0, 1⟩ : FleetTask)] 0).bind (unc2 fun x75 l76 =>
  (if x75 = 0 then (
  if (l76.length : Int) = 1 then (
  (idx l76 0).bind fun x114 =>
  (mSlicesEqual x114 [0, 1]).bind fun x130 =>
  some x130)
  else (
  some false))
  else (
  some false)).bind (fun x110 =>
  some x110))

/-- fishplate/fishref2.within -/
noncomputable def mFishref2Within (x1 : Int) (x2 : Int) (x3 : Int) : Option (Bool) :=
  (if x2 ≤ x1 then (
  some (decide (x1 ≤ x3)))
  else (
  some false)).bind (fun x14 =>
  some x14)

noncomputable def mSlicesIndex_L39 (l4 : (List Int)) (x5 : Int) (k54 : Nat) : (Unit) → Option ((Unit) ⊕ (Int)) := fun _ =>
  (idx l4 (k54 : Int)).bind fun x58 =>
  if x5 = x58 then (
  some (.inr (k54 : Int)))
  else (
  some (.inl ()))

/-- slices.Index[[]int,int] -/
noncomputable def mSlicesIndex (l4 : (List Int)) (x5 : Int) : Option (Int) :=
  (forM (mSlicesIndex_L39 l4 x5) l4.length 0 ()).bind fun t => Sum.elim (fun _ =>
  some (-1)) (fun q => some q) t

/-- slices.Contains[[]int,int] -/
noncomputable def mSlicesContains (l4 : (List Int)) (x5 : Int) : Option (Bool) :=
  (mSlicesIndex l4 x5).bind fun x9 =>
  some (decide (0 ≤ x9))

noncomputable def mFishref2DepotFault_L745 (x732 : (List Int)) (k805 : Nat) : ((List Int)) → Option (((List Int)) ⊕ (((List Int)) ⊕ (Int))) := fun l804 =>
  (idx x732 (k805 : Int)).bind fun x809 =>
  (mFishref2Within x809 0 99).bind fun x819 =>
  if x819 = true then (
  (mSlicesContains l804 x809).bind fun x824 =>
  if x824 = true then (
  some (.inr (.inr 6)))
  else (
  (room 8 (l804.length + 1)).bind fun _ =>
  some (.inl (l804 ++ [x809]))))
  else (
  some (.inr (.inr 2)))

noncomputable def mFishref2DepotFault_L428 (s1 : FleetDepot) (k699 : Nat) : ((List Int)) → Option (((List Int)) ⊕ (Int)) := fun l698 =>
  (idx s1.Room (k699 : Int)).bind fun x703 =>
  (mFishref2Within x703 1 4).bind fun x713 =>
  if x713 = true then (
  (idx s1.Tracks (k699 : Int)).bind fun x717 =>
  if x703 < (x717.length : Int) then (
  some (.inr 14))
  else (
  (idx s1.Tracks (k699 : Int)).bind fun x732 =>
  (forM (mFishref2DepotFault_L745 x732) x732.length 0 l698).bind fun t => Sum.elim (fun l804 =>
  some (.inl l804)) (fun q => some q) t))
  else (
  some (.inr 2))

/-- fishplate/fishref2.DepotFault -/
noncomputable def mFishref2DepotFault (s1 : FleetDepot) : Option (Int) :=
  (mFishref2Within (s1.Room.length : Int) 1 4).bind fun x424 =>
  if x424 = true then (
  if (s1.Tracks.length : Int) ≠ (s1.Room.length : Int) then (
  some 1)
  else (
  (forM (mFishref2DepotFault_L428 s1) s1.Room.length 0 ([] : (List Int))).bind fun t => Sum.elim (fun _ =>
  some 0) (fun q => some q) t))
  else (
  some 4)

noncomputable def mFishref2ShuntFault_L289 (l11 : (List Int)) (x276 : (List Int)) (k304 : Nat) : (Unit) → Option ((Unit) ⊕ ((Unit) ⊕ (Int))) := fun _ =>
  (idx x276 (k304 : Int)).bind fun x308 =>
  if (l11.length : Int) ≤ x308 then (
  some (.inr (.inr 2)))
  else (
  some (.inl ()))

noncomputable def mFishref2ShuntFault_L224 (s1 : FleetDepot) (l11 : (List Int)) (k272 : Nat) : (Unit) → Option ((Unit) ⊕ (Int)) := fun _ =>
  (idx s1.Tracks (k272 : Int)).bind fun x276 =>
  (forM (mFishref2ShuntFault_L289 l11 x276) x276.length 0 ()).bind fun t => Sum.elim (fun _ =>
  some (.inl ())) (fun q => some q) t

noncomputable def mFishref2ShuntFault_L172 (s1 : FleetDepot) (k206 : Nat) : (Int) → Option (Int) := fun x205 =>
  (idx s1.Tracks (k206 : Int)).bind fun x209 =>
  (chk (x205 + (x209.length : Int))).bind fun _ =>
  some (x205 + (x209.length : Int))

/-- fishplate/fishref2.ShuntFault -/
noncomputable def mFishref2ShuntFault (s1 : FleetDepot) (l11 : (List Int)) : Option (Int) :=
  (mFishref2DepotFault s1).bind fun x169 =>
  if x169 ≠ 0 then (
  some x169)
  else (
  (forS (mFishref2ShuntFault_L172 s1) s1.Tracks.length 0 0).bind (fun x205 =>
  if 6 < x205 then (
  some 4)
  else (
  (forM (mFishref2ShuntFault_L224 s1 l11) s1.Tracks.length 0 ()).bind fun t => Sum.elim (fun _ =>
  some 0) (fun q => some q) t)))

noncomputable def mFleetCheckDepot_L718 (x679 : (List Int)) (k776 : Nat) : ((List (Int × Bool))) → Option (((List (Int × Bool))) ⊕ (((List (Int × Bool))) ⊕ (Int))) := fun l775 =>
  (idx x679 (k776 : Int)).bind fun x780 =>
  (mFleetWithin x780 0 99).bind fun x790 =>
  if x790 = true then (
  (some (mgetD l775 x780 false)).bind fun x798 =>
  if x798 = true then (
  some (.inr (.inr 6)))
  else (
  some (.inl (mput l775 x780 true))))
  else (
  some (.inr (.inr 2)))

noncomputable def mFleetCheckDepot_L417 (s1 : FleetDepot) (k675 : Nat) : ((List (Int × Bool))) → Option (((List (Int × Bool))) ⊕ (Int)) := fun l674 =>
  (idx s1.Tracks (k675 : Int)).bind fun x679 =>
  (idx s1.Room (k675 : Int)).bind fun x692 =>
  (mFleetWithin x692 1 4).bind fun x702 =>
  if x702 = true then (
  (idx s1.Room (k675 : Int)).bind fun x706 =>
  if x706 < (x679.length : Int) then (
  some (.inr 14))
  else (
  (forM (mFleetCheckDepot_L718 x679) x679.length 0 l674).bind fun t => Sum.elim (fun l775 =>
  some (.inl l775)) (fun q => some q) t))
  else (
  some (.inr 2))

/-- fishplate/fleet.CheckDepot -/
noncomputable def mFleetCheckDepot (s1 : FleetDepot) : Option (Int) :=
  (mFleetWithin (s1.Room.length : Int) 1 4).bind fun x410 =>
  if x410 = true then (
  if (s1.Tracks.length : Int) ≠ (s1.Room.length : Int) then (
  some 1)
  else (
  (forM (mFleetCheckDepot_L417 s1) s1.Tracks.length 0 (([] : (List (Int × Bool))) : (List (Int × Bool)))).bind fun t => Sum.elim (fun _ =>
  some 0) (fun q => some q) t))
  else (
  some 4)

/-- fishplate/fleet.Shunt-1 -/
noncomputable def mFleetShunt_1 (x2 : Int) (l6 : (List Int)) : Option (Bool) :=
  some (decide ((l6.length : Int) ≤ x2))

noncomputable def mSlicesIndexFunc_L51 (l5 : (List Int)) (l9 : (List Int)) (k70 : Nat) : (Unit) → Option ((Unit) ⊕ (Int)) := fun _ =>
  (idx l5 (k70 : Int)).bind fun x74 =>
  (mFleetShunt_1 x74 l9).bind fun x84 =>
  if x84 = true then (
  some (.inr (k70 : Int)))
  else (
  some (.inl ()))

/-- slices.IndexFunc[[]int,int] -/
noncomputable def mSlicesIndexFunc (l5 : (List Int)) (l9 : (List Int)) : Option (Int) :=
  (forM (mSlicesIndexFunc_L51 l5 l9) l5.length 0 ()).bind fun t => Sum.elim (fun _ =>
  some (-1)) (fun q => some q) t

/-- slices.ContainsFunc[[]int,int] -/
noncomputable def mSlicesContainsFunc (l5 : (List Int)) (l9 : (List Int)) : Option (Bool) :=
  (mSlicesIndexFunc l5 l9).bind fun x15 =>
  some (decide (0 ≤ x15))

noncomputable def mFleetStateOf_L670 (k654 : Nat) (x657 : (List Int)) (k744 : Nat) : ((List (List Int))) → Option ((List (List Int))) := fun l741 =>
  (idx x657 (k744 : Int)).bind fun x747 =>
  (chk (x747 + 1)).bind fun _ =>
  (idx l741 (k654 : Int)).bind fun x758 =>
  (idx x758 (k744 : Int)).bind fun _ =>
  some (put l741 (k654 : Int) (put x758 (k744 : Int) (x747 + 1)))

noncomputable def mFleetStateOf_L400 (s1 : FleetDepot) (k654 : Nat) : ((List (List Int))) → Option ((List (List Int))) := fun l651 =>
  (idx s1.Tracks (k654 : Int)).bind fun x657 =>
  (forS (mFleetStateOf_L670 k654 x657) x657.length 0 l651).bind (fun l741 =>
  some l741)

/-- fishplate/fleet.stateOf -/
noncomputable def mFleetStateOf (s1 : FleetDepot) : Option ((List (List Int))) :=
  (forS (mFleetStateOf_L400 s1) s1.Tracks.length 0 (List.replicate 4 (List.replicate 4 (0 : Int)))).bind (fun l651 =>
  some l651)

/-- (*fishplate/fleet.queue[fishplate/fleet.try]).put -/
noncomputable def mFleetQueuePut (s7 : FleetTry) (l17 : (List FleetTry)) : Option ((List FleetTry)) :=
  (room 80 (l17.length + 1)).bind fun _ =>
  some (l17 ++ [s7])

/-- fishplate/fleet.do-1 -/
noncomputable def mFleetDo_1 (x2 : Int) (_l6 : (List Int)) (l10 : (List (List Int))) : Option (Bool) :=
  (chk ((l10.length : Int) - 1)).bind fun _ =>
  (mFleetWithin x2 0 ((l10.length : Int) - 1)).bind fun x16 =>
  some x16

/-- slices.Clone[[]int,int] -/
noncomputable def mSlicesClone (l4 : (List Int)) : Option ((List Int)) :=
  (room 8 l4.length).bind fun _ => some l4

noncomputable def mFleetDo_L749 (s1 : FleetDepot) (k851 : Nat) : ((List (List Int))) → Option ((List (List Int))) := fun l849 =>
  (idx s1.Tracks (k851 : Int)).bind fun x854 =>
  (mSlicesClone x854).bind fun l881 =>
  (room 24 (l849.length + 1)).bind fun _ =>
  some (l849 ++ [l881])

/-- fishplate/fleet.do -/
noncomputable def mFleetDo (s1 : FleetDepot) (s8 : FleetMove) : Option (Int × Int × (List Int) × (List (List Int))) :=
  ((mFleetDo_1 s8.From s1.Room s1.Tracks).bind fun x613 =>
  if x613 = true then (
  (mFleetDo_1 s8.To s1.Room s1.Tracks).bind fun x618 =>
  if x618 = true then (
  some false)
  else (
  some (decide (s8.To ≠ (-1)))))
  else (
  some true)).bind (fun x611 =>
  if x611 = true then (
  some (0, 2, [], []))
  else (
  if s8.From = s8.To then (
  some (0, 1, [], []))
  else (
  (idx s1.Tracks s8.From).bind fun x625 =>
  if (x625.length : Int) = 0 then (
  some (0, 9, [], []))
  else (
  (if 0 ≤ s8.To then (
  (idx s1.Tracks s8.To).bind fun x716 =>
  (idx s1.Room s8.To).bind fun x729 =>
  some (decide (x729 ≤ (x716.length : Int))))
  else (
  some false)).bind (fun x689 =>
  if x689 = true then (
  some (0, 14, [], []))
  else (
  (mSlicesClone s1.Room).bind fun l740 =>
  (forS (mFleetDo_L749 s1) s1.Tracks.length 0 ([] : (List (List Int)))).bind (fun l849 =>
  (idx l849 s8.From).bind fun x895 =>
  (chk ((x895.length : Int) - 1)).bind fun _ =>
  (idx x895 ((x895.length : Int) - 1)).bind fun x916 =>
  (chk ((x895.length : Int) - 1)).bind fun _ =>
  (cutS x895 0 ((x895.length : Int) - 1)).bind fun l969 =>
  (idx l849 s8.From).bind fun _ =>
  (if 0 ≤ s8.To then (
  (idx (put l849 s8.From l969) s8.To).bind fun x1130 =>
  (room 8 (x1130.length + 1)).bind fun _ =>
  (idx (put l849 s8.From l969) s8.To).bind fun _ =>
  some (put (put l849 s8.From l969) s8.To (x1130 ++ [x916])))
  else (
  some (put l849 s8.From l969))).bind (fun l1088 =>
  some (x916, 0, l740, l1088)))))))))

/-- slices.Clone[[]fishplate/fleet.Move,fishplate/fleet.Move] -/
noncomputable def mSlicesClone_2 (l4 : (List FleetMove)) : Option ((List FleetMove)) :=
  (room 16 l4.length).bind fun _ => some l4

/-- (*fishplate/fleet.queue[fishplate/fleet.try]).put -/
noncomputable def mFleetQueuePut_2 (l15 : (List Int)) (l19 : (List (List Int))) (x20 : Int) (l21 : (List FleetMove)) (l23 : (List FleetTry)) : Option ((List FleetTry)) :=
  (room 80 (l23.length + 1)).bind fun _ =>
  some (l23 ++ [(⟨(⟨l15, l19⟩ : FleetDepot), x20, l21⟩ : FleetTry)])

/-- (*fishplate/fleet.queue[fishplate/fleet.try]).take -/
noncomputable def mFleetQueueTake_2 (l7 : (List FleetTry)) : Option ((List Int) × (List (List Int)) × Int × (List FleetMove) × Bool × (List FleetTry)) :=
  if (l7.length : Int) = 0 then (
  some ([], [], 0, [], false, l7))
  else (
  (idx l7 0).bind fun x73 =>
  (cutS l7 1 (l7.length : Int)).bind fun l99 =>
  some (x73.depot.Room, x73.depot.Tracks, x73.left, x73.moves, true, l99))

noncomputable def mFleetShunt_L50565 (s1 : FleetDepot) (l11 : (List Int)) (l15 : (List Int)) (k49129 : Nat) (l43374 : (List Int)) (l43375 : (List (List Int))) (l43377 : (List FleetMove)) (x43376 : Int) : (Int × (List ((List (List Int)) × Bool)) × (List FleetTry)) → Option ((Int × (List ((List (List Int)) × Bool)) × (List FleetTry)) ⊕ ((List ((List (List Int)) × Bool)) × (List FleetTry))) := unc3 fun x51517 l51518 l51519 =>
  if x51517 < (s1.Tracks.length : Int) then (
  ((mFleetDo (⟨l43374, l43375⟩ : FleetDepot) (⟨(k49129 : Int), x51517⟩ : FleetMove)).bind (unc4 fun x51760 x51761 l51762 l51763 =>
  (if x51761 ≠ 0 then (
  some true)
  else (
  if x51517 < 0 then (
  (idx l11 x51760).bind fun x51849 =>
  (idx l15 x43376).bind fun x51859 =>
  some (decide (x51849 ≠ x51859)))
  else (
  some false))).bind (fun x51823 =>
  if x51823 = true then (
  some (l51518, l51519))
  else (
  ((mSlicesClone_2 l43377).bind fun l51926 =>
  (room 16 (l51926.length + 1)).bind fun _ =>
  some (l51926 ++ [(⟨(k49129 : Int), x51517⟩ : FleetMove)])).bind (fun l51908 =>
  (if x51517 < 0 then (
  (chk (x43376 + 1)).bind fun _ =>
  some (x43376 + 1))
  else (
  some x43376)).bind (fun x51945 =>
  (mFleetStateOf (⟨l51762, l51763⟩ : FleetDepot)).bind fun l51957 =>
  (some (mgetD l51518 l51957 false)).bind fun x51968 =>
  if x51968 = true then (
  some (l51518, l51519))
  else (
  (mFleetQueuePut_2 l51762 l51763 x51945 l51908 l51519).bind fun l51975 =>
  some (mput l51518 l51957 true, l51975)))))))).bind (unc2 fun l51756 l51757 =>
  (chk (x51517 + 1)).bind fun _ =>
  some (.inl (x51517 + 1, l51756, l51757))))
  else (
  some (.inr (l51518, l51519)))

noncomputable def mFleetShunt_L43399 (s1 : FleetDepot) (l11 : (List Int)) (l15 : (List Int)) (l43374 : (List Int)) (l43375 : (List (List Int))) (l43377 : (List FleetMove)) (x43376 : Int) (k49129 : Nat) : ((List ((List (List Int)) × Bool)) × (List FleetTry)) → Option ((List ((List (List Int)) × Bool)) × (List FleetTry)) := unc2 fun l49127 l49128 =>
  (loopM (mFleetShunt_L50565 s1 l11 l15 k49129 l43374 l43375 l43377 x43376) ((-1), l49127, l49128)).bind (unc2 fun l50562 l50563 =>
  some (l50562, l50563))

noncomputable def mFleetShunt_L26129 (s1 : FleetDepot) (l11 : (List Int)) (l15 : (List Int)) : ((List ((List (List Int)) × Bool)) × (List FleetTry)) → Option (((List ((List (List Int)) × Bool)) × (List FleetTry)) ⊕ ((List FleetMove) × Int)) := unc2 fun l43372 l43373 =>
  (mFleetQueueTake_2 l43373).bind (unc6 fun l43374 l43375 x43376 l43377 x43378 l43379 =>
  if x43378 = true then (
  if x43376 = (l15.length : Int) then (
  some (.inr (l43377, 0)))
  else (
  (forS (mFleetShunt_L43399 s1 l11 l15 l43374 l43375 l43377 x43376) s1.Tracks.length 0 (l43372, l43379)).bind (unc2 fun l49127 l49128 =>
  some (.inl (l49127, l49128)))))
  else (
  some (.inr ([], 9))))

noncomputable def mFleetShunt_L26060 (s1 : FleetDepot) (l11 : (List Int)) (k26082 : Nat) : (Unit) → Option ((Unit) ⊕ ((List FleetMove) × Int)) := fun _ =>
  (idx s1.Tracks (k26082 : Int)).bind fun x26086 =>
  (mSlicesContainsFunc x26086 l11).bind fun x26099 =>
  if x26099 = true then (
  some (.inr ([], 2)))
  else (
  some (.inl ()))

noncomputable def mFleetShunt_L26008 (s1 : FleetDepot) (k26042 : Nat) : (Int) → Option (Int) := fun x26041 =>
  (idx s1.Tracks (k26042 : Int)).bind fun x26045 =>
  (chk (x26041 + (x26045.length : Int))).bind fun _ =>
  some (x26041 + (x26045.length : Int))

/-- fishplate/fleet.Shunt -/
noncomputable def mFleetShunt (s1 : FleetDepot) (l11 : (List Int)) (l15 : (List Int)) : Option ((List FleetMove) × Int) :=
  (mFleetCheckDepot s1).bind fun x26005 =>
  if x26005 ≠ 0 then (
  some ([], x26005))
  else (
  (forS (mFleetShunt_L26008 s1) s1.Tracks.length 0 0).bind (fun x26041 =>
  if 6 < x26041 then (
  some ([], 4))
  else (
  (forM (mFleetShunt_L26060 s1 l11) s1.Tracks.length 0 ()).bind fun t => Sum.elim (fun _ =>
  if x26041 < (l15.length : Int) then (
  some ([], 9))
  else (
  (mFleetStateOf s1).bind fun l26110 =>
  (mFleetQueuePut (⟨s1, 0, []⟩ : FleetTry) []).bind fun l26120 =>
  loopM (mFleetShunt_L26129 s1 l11 l15) ((mput ([] : (List ((List (List Int)) × Bool))) l26110 true, l26120) : (List ((List (List Int)) × Bool)) × (List FleetTry)))) (fun q => some q) t)))

noncomputable def mFleetPlay_L533 (l11 : (List FleetMove)) (k664 : Nat) : ((List Int) × (List Int) × (List (List Int))) → Option (((List Int) × (List Int) × (List (List Int))) ⊕ (Int × (List Int) × (List (List Int)) × (List Int))) := unc3 fun l660 l661 l662 =>
  (idx l11 (k664 : Int)).bind fun x668 =>
  (mFleetDo (⟨l661, l662⟩ : FleetDepot) x668).bind (unc4 fun x687 x688 l689 l690 =>
  if x688 ≠ 0 then (
  some (.inr (x688, [], [], [])))
  else (
  if x668.To < 0 then (
  (room 8 (l660.length + 1)).bind fun _ =>
  some (.inl (l660 ++ [x687], l689, l690)))
  else (
  some (.inl (l660, l689, l690)))))

noncomputable def mFleetPlay_L387 (s1 : FleetDepot) (k489 : Nat) : ((List (List Int))) → Option ((List (List Int))) := fun l487 =>
  (idx s1.Tracks (k489 : Int)).bind fun x492 =>
  (mSlicesClone x492).bind fun l519 =>
  (room 24 (l487.length + 1)).bind fun _ =>
  some (l487 ++ [l519])

/-- fishplate/fleet.Play -/
noncomputable def mFleetPlay (s1 : FleetDepot) (l11 : (List FleetMove)) : Option (Int × (List Int) × (List (List Int)) × (List Int)) :=
  (mFleetCheckDepot s1).bind fun x375 =>
  if x375 ≠ 0 then (
  some (x375, [], [], []))
  else (
  (mSlicesClone s1.Room).bind fun l378 =>
  (forS (mFleetPlay_L387 s1) s1.Tracks.length 0 ([] : (List (List Int)))).bind (fun l487 =>
  (forM (mFleetPlay_L533 l11) l11.length 0 (([], l378, l487) : (List Int) × (List Int) × (List (List Int)))).bind fun t => Sum.elim (unc3 fun l660 l661 l662 =>
  some (0, l661, l662, l660)) (fun q => some q) t))

noncomputable def mFishkeep2FleetShunted_L422 (l11 : (List Int)) (l15 : (List Int)) (l397 : (List Int)) (k535 : Nat) : (Unit) → Option ((Unit) ⊕ (Bool)) := fun _ =>
  (idx l397 (k535 : Int)).bind fun x539 =>
  (if x539 < 0 then (
  some true)
  else (
  if (l11.length : Int) ≤ x539 then (
  some true)
  else (
  (idx l11 x539).bind fun x627 =>
  (idx l15 (k535 : Int)).bind fun x637 =>
  some (decide (x627 ≠ x637))))).bind (fun x601 =>
  if x601 = true then (
  some (.inr false))
  else (
  some (.inl ())))

/-- fishplate/fishkeep2.FleetShunted -/
noncomputable def mFishkeep2FleetShunted (s1 : FleetDepot) (l11 : (List Int)) (l15 : (List Int)) : Option (Bool) :=
  (mFishkeep2AwakeFleet).bind fun x362 =>
  if x362 = true then (
  (mFishkeep2Sets).bind fun x365 =>
  if x365 = true then (
  ((mFishref2ShuntFault s1 l11).bind fun x375 =>
  if x375 ≠ 0 then (
  some true)
  else (
  some (decide (6 < (l15.length : Int))))).bind (fun x373 =>
  if x373 = true then (
  some true)
  else (
  (mFleetShunt s1 l11 l15).bind (unc2 fun l379 x380 =>
  if x380 ≠ 0 then (
  (if x380 = 9 then (
  some (decide ((l379.length : Int) = 0)))
  else (
  some false)).bind (fun x391 =>
  some x391))
  else (
  (mFleetPlay s1 l379).bind (unc4 fun x394 _ _ l397 =>
  (if x394 ≠ 0 then (
  some true)
  else (
  some (decide ((l397.length : Int) ≠ (l15.length : Int))))).bind (fun x418 =>
  if x418 = true then (
  some false)
  else (
  (forM (mFishkeep2FleetShunted_L422 l11 l15 l397) l397.length 0 ()).bind fun t => Sum.elim (fun _ =>
  if (l15.length : Int) = 0 then (
  some (decide ((l379.length : Int) = 0)))
  else (
  (chk ((l15.length : Int) - 1)).bind fun _ =>
  (cutS l15 0 ((l15.length : Int) - 1)).bind fun l676 =>
  (mFleetShunt s1 l11 l676).bind (unc2 fun l691 x692 =>
  (if x692 = 0 then (
  some (decide ((l691.length : Int) < (l379.length : Int))))
  else (
  some false)).bind (fun x702 =>
  some x702)))) (fun q => some q) t))))))))
  else (
  some false))
  else (
  some false)

end Go.Proofs.Ytajmocgpjkhjlaa
