/- The models of the functions, as the extractor printed them. -/
import Derived.Test.YtajmocgpjkhjlaaXD
set_option linter.unusedVariables false
set_option linter.unusedSimpArgs false
namespace Go.Proofs.Ytajmocgpjkhjlaa
open Go.RowKit Go.Fp

structure FleetTask where
  From : Int
  To : Int
  Dep : Int
  Arr : Int
  Km : Int
  Units : Int
  deriving DecidableEq
def rFleetTask : RT FleetTask := (RT.cat (RT.on (RT.int .i64) FleetTask.From) (RT.cat (RT.on (RT.int .i64) FleetTask.To) (RT.cat (RT.on (RT.int .i64) FleetTask.Dep) (RT.cat (RT.on (RT.int .i64) FleetTask.Arr) (RT.cat (RT.on (RT.int .i64) FleetTask.Km) (RT.on (RT.int .i64) FleetTask.Units))))))

/-- fishplate/fleet.within -/
noncomputable def mFleetWithin (x1 : Int) (x2 : Int) (x3 : Int) : Option (Bool) :=
  (if x2 ≤ x1 then (
  some (decide (x1 ≤ x3)))
  else (
  some false)).bind (fun x14 =>
  some x14)

noncomputable def mFleetCheckTasks_L128 (l4 : (List FleetTask)) (k186 : Nat) : (Unit) → Option ((Unit) ⊕ (Int)) := fun _ =>
  (idx l4 (k186 : Int)).bind fun x190 =>
  ((mFleetWithin x190.From 0 11).bind fun x216 =>
  if x216 = true then (
  (mFleetWithin x190.To 0 11).bind fun x219 =>
  if x219 = true then (
  (mFleetWithin x190.Dep 0 28800).bind fun x222 =>
  if x222 = true then (
  (mFleetWithin x190.Arr 0 28800).bind fun x225 =>
  some (!x225))
  else (
  some true))
  else (
  some true))
  else (
  some true)).bind (fun x214 =>
  if x214 = true then (
  some (.inr 2))
  else (
  if x190.Arr ≤ x190.Dep then (
  some (.inr 13))
  else (
  ((mFleetWithin x190.Km 0 10000).bind fun x240 =>
  if x240 = true then (
  (mFleetWithin x190.Units 1 4).bind fun x243 =>
  some (!x243))
  else (
  some true)).bind (fun x238 =>
  if x238 = true then (
  some (.inr 2))
  else (
  some (.inl ()))))))

/-- fishplate/fleet.CheckTasks -/
noncomputable def mFleetCheckTasks (l4 : (List FleetTask)) : Option (Int) :=
  if 40 < (l4.length : Int) then (
  some 4)
  else (
  (forM (mFleetCheckTasks_L128 l4) l4.length 0 ()).bind fun t => Sum.elim (fun _ =>
  some 0) (fun q => some q) t)

/-- fishplate/fleet.checkTurn -/
noncomputable def mFleetCheckTurn (l4 : (List FleetTask)) (x5 : Int) : Option (Int) :=
  (mFleetCheckTasks l4).bind fun x13 =>
  if x13 ≠ 0 then (
  some x13)
  else (
  (mFleetWithin x5 0 28800).bind fun x16 =>
  if x16 = true then (
  some 0)
  else (
  some 2))

/-- cmp.isNaN[int] -/
noncomputable def mCmpIsNaN (x1 : Int) : Option (Bool) :=
  some (decide (x1 ≠ x1))

/-- cmp.Compare[int] -/
noncomputable def mCmpCompare (x1 : Int) (x2 : Int) : Option (Int) :=
  (mCmpIsNaN x1).bind fun x13 =>
  (mCmpIsNaN x2).bind fun x15 =>
  if x13 = true then (
  if x15 = true then (
  some 0)
  else (
  some (-1)))
  else (
  if x15 = true then (
  some 1)
  else (
  if x1 < x2 then (
  some (-1))
  else (
  if x2 < x1 then (
  some 1)
  else (
  some 0))))

/-- fishplate/fleet.order-1 -/
noncomputable def mFleetOrder_1 (x2 : Int) (x3 : Int) (l7 : (List FleetTask)) : Option (Int) :=
  (idx l7 x2).bind fun x75 =>
  (idx l7 x3).bind fun x85 =>
  (mCmpCompare x75.Dep x85.Dep).bind fun x95 =>
  some x95

noncomputable def mSlicesInsertionSortCmpFunc_L10142 (x7 : Int) (l12 : (List FleetTask)) : (Int × (List Int)) → Option ((Int × (List Int)) ⊕ ((List Int))) := unc2 fun x10752 l10753 =>
  (if x7 < x10752 then (
  (idx l10753 x10752).bind fun x10874 =>
  (chk (x10752 - 1)).bind fun _ =>
  (idx l10753 (x10752 - 1)).bind fun x10891 =>
  (mFleetOrder_1 x10874 x10891 l12).bind fun x10907 =>
  some (decide (x10907 < 0)))
  else (
  some false)).bind (fun x10833 =>
  if x10833 = true then (
  (chk (x10752 - 1)).bind fun _ =>
  (chk (x10752 - 1)).bind fun _ =>
  (idx l10753 (x10752 - 1)).bind fun x10984 =>
  (idx l10753 x10752).bind fun x11000 =>
  (idx l10753 x10752).bind fun _ =>
  (idx (put l10753 x10752 x10984) (x10752 - 1)).bind fun _ =>
  (chk (x10752 - 1)).bind fun _ =>
  some (.inl (x10752 - 1, put (put l10753 x10752 x10984) (x10752 - 1) x11000)))
  else (
  some (.inr l10753)))

noncomputable def mSlicesInsertionSortCmpFunc_L5538 (x7 : Int) (x8 : Int) (l12 : (List FleetTask)) : (Int × (List Int)) → Option ((Int × (List Int)) ⊕ ((List Int))) := unc2 fun x9218 l9219 =>
  if x9218 < x8 then (
  (loopM (mSlicesInsertionSortCmpFunc_L10142 x7 l12) (x9218, l9219)).bind (fun l10139 =>
  (chk (x9218 + 1)).bind fun _ =>
  some (.inl (x9218 + 1, l10139))))
  else (
  some (.inr l9219))

/-- slices.insertionSortCmpFunc[int] -/
noncomputable def mSlicesInsertionSortCmpFunc (x7 : Int) (x8 : Int) (l12 : (List FleetTask)) (l13 : (List Int)) : Option ((List Int)) :=
  (chk (x7 + 1)).bind fun _ =>
  loopM (mSlicesInsertionSortCmpFunc_L5538 x7 x8 l12) (x7 + 1, l13)

noncomputable def mSlicesSwapRangeCmpFunc_L476 (x7 : Int) (x8 : Int) (x9 : Int) : (Int × (List Int)) → Option ((Int × (List Int)) ⊕ ((List Int))) := unc2 fun x782 l783 =>
  if x782 < x9 then (
  (chk (x7 + x782)).bind fun _ =>
  (chk (x8 + x782)).bind fun _ =>
  (chk (x8 + x782)).bind fun _ =>
  (idx l783 (x8 + x782)).bind fun x861 =>
  (chk (x7 + x782)).bind fun _ =>
  (idx l783 (x7 + x782)).bind fun x878 =>
  (idx l783 (x7 + x782)).bind fun _ =>
  (idx (put l783 (x7 + x782) x861) (x8 + x782)).bind fun _ =>
  (chk (x782 + 1)).bind fun _ =>
  some (.inl (x782 + 1, put (put l783 (x7 + x782) x861) (x8 + x782) x878)))
  else (
  some (.inr l783))

/-- slices.swapRangeCmpFunc[int] -/
noncomputable def mSlicesSwapRangeCmpFunc (x7 : Int) (x8 : Int) (x9 : Int) (_l13 : (List FleetTask)) (l14 : (List Int)) : Option ((List Int)) :=
  loopM (mSlicesSwapRangeCmpFunc_L476 x7 x8 x9) (0, l14)

noncomputable def mSlicesRotateCmpFunc_L299 (x8 : Int) (l13 : (List FleetTask)) : (Int × Int × (List Int)) → Option ((Int × Int × (List Int)) ⊕ (Int × (List Int))) := unc3 fun x356 x357 l358 =>
  if x356 ≠ x357 then (
  if x357 < x356 then (
  (chk (x8 - x356)).bind fun _ =>
  (mSlicesSwapRangeCmpFunc (x8 - x356) x8 x357 l13 l358).bind fun l363 =>
  (chk (x356 - x357)).bind fun _ =>
  some (.inl (x356 - x357, x357, l363)))
  else (
  (chk (x8 - x356)).bind fun _ =>
  (chk (x8 + x357)).bind fun _ =>
  (chk ((x8 + x357) - x356)).bind fun _ =>
  (mSlicesSwapRangeCmpFunc (x8 - x356) ((x8 + x357) - x356) x356 l13 l358).bind fun l374 =>
  (chk (x357 - x356)).bind fun _ =>
  some (.inl (x356, x357 - x356, l374))))
  else (
  some (.inr (x356, l358)))

/-- slices.rotateCmpFunc[int] -/
noncomputable def mSlicesRotateCmpFunc (x7 : Int) (x8 : Int) (x9 : Int) (l13 : (List FleetTask)) (l14 : (List Int)) : Option ((List Int)) :=
  (chk (x8 - x7)).bind fun _ =>
  (chk (x9 - x8)).bind fun _ =>
  (loopM (mSlicesRotateCmpFunc_L299 x8 l13) (x8 - x7, x9 - x8, l14)).bind (unc2 fun x295 l296 =>
  (chk (x8 - x295)).bind fun _ =>
  (mSlicesSwapRangeCmpFunc (x8 - x295) x8 x295 l13 l296).bind fun l383 =>
  some l383)

noncomputable def mSlicesSymMergeCmpFunc_L6951 (x7 : Int) (l13 : (List FleetTask)) (l14 : (List Int)) : (Int × Int) → Option ((Int × Int) ⊕ (Int)) := unc2 fun x7110 x7111 =>
  if x7110 < x7111 then (
  (chk (x7110 + x7111)).bind fun _ =>
  (shN 1).bind fun _ =>
  (idx l14 (IntKind.wrap .i64 (shrI .u64 (IntKind.wrap .u64 (x7110 + x7111)) 1))).bind fun x7151 =>
  (idx l14 x7).bind fun x7167 =>
  (mFleetOrder_1 x7151 x7167 l13).bind fun x7183 =>
  if x7183 < 0 then (
  (chk ((IntKind.wrap .i64 (shrI .u64 (IntKind.wrap .u64 (x7110 + x7111)) 1)) + 1)).bind fun _ =>
  some (.inl ((IntKind.wrap .i64 (shrI .u64 (IntKind.wrap .u64 (x7110 + x7111)) 1)) + 1, x7111)))
  else (
  some (.inl (x7110, IntKind.wrap .i64 (shrI .u64 (IntKind.wrap .u64 (x7110 + x7111)) 1)))))
  else (
  some (.inr x7110))

noncomputable def mSlicesSymMergeCmpFunc_L7644 (x6949 : Int) : (Int × (List Int)) → Option ((Int × (List Int)) ⊕ ((List Int))) := unc2 fun x7944 l7945 =>
  (chk (x6949 - 1)).bind fun _ =>
  if x7944 < (x6949 - 1) then (
  (chk (x7944 + 1)).bind fun _ =>
  (chk (x7944 + 1)).bind fun _ =>
  (idx l7945 (x7944 + 1)).bind fun x8021 =>
  (idx l7945 x7944).bind fun x8037 =>
  (idx l7945 x7944).bind fun _ =>
  (idx (put l7945 x7944 x8021) (x7944 + 1)).bind fun _ =>
  (chk (x7944 + 1)).bind fun _ =>
  some (.inl (x7944 + 1, put (put l7945 x7944 x8021) (x7944 + 1) x8037)))
  else (
  some (.inr l7945))

noncomputable def mSlicesSymMergeCmpFunc_L8335 (x8 : Int) (l13 : (List FleetTask)) (l14 : (List Int)) : (Int × Int) → Option ((Int × Int) ⊕ (Int)) := unc2 fun x8494 x8495 =>
  if x8494 < x8495 then (
  (chk (x8494 + x8495)).bind fun _ =>
  (shN 1).bind fun _ =>
  (idx l14 x8).bind fun x8535 =>
  (idx l14 (IntKind.wrap .i64 (shrI .u64 (IntKind.wrap .u64 (x8494 + x8495)) 1))).bind fun x8551 =>
  (mFleetOrder_1 x8535 x8551 l13).bind fun x8567 =>
  if x8567 < 0 then (
  some (.inl (x8494, IntKind.wrap .i64 (shrI .u64 (IntKind.wrap .u64 (x8494 + x8495)) 1))))
  else (
  (chk ((IntKind.wrap .i64 (shrI .u64 (IntKind.wrap .u64 (x8494 + x8495)) 1)) + 1)).bind fun _ =>
  some (.inl ((IntKind.wrap .i64 (shrI .u64 (IntKind.wrap .u64 (x8494 + x8495)) 1)) + 1, x8495))))
  else (
  some (.inr x8494))

noncomputable def mSlicesSymMergeCmpFunc_L9025 (x8333 : Int) : (Int × (List Int)) → Option ((Int × (List Int)) ⊕ ((List Int))) := unc2 fun x9323 l9324 =>
  if x8333 < x9323 then (
  (chk (x9323 - 1)).bind fun _ =>
  (chk (x9323 - 1)).bind fun _ =>
  (idx l9324 (x9323 - 1)).bind fun x9399 =>
  (idx l9324 x9323).bind fun x9415 =>
  (idx l9324 x9323).bind fun _ =>
  (idx (put l9324 x9323 x9399) (x9323 - 1)).bind fun _ =>
  (chk (x9323 - 1)).bind fun _ =>
  some (.inl (x9323 - 1, put (put l9324 x9323 x9399) (x9323 - 1) x9415)))
  else (
  some (.inr l9324))

noncomputable def mSlicesSymMergeCmpFunc_L9730 (x7 : Int) (x8 : Int) (x9 : Int) (l13 : (List FleetTask)) (l14 : (List Int)) : (Int × Int) → Option ((Int × Int) ⊕ (Int)) := unc2 fun x9893 x9894 =>
  if x9893 < x9894 then (
  (chk (x9893 + x9894)).bind fun _ =>
  (shN 1).bind fun _ =>
  (chk ((((IntKind.wrap .i64 (shrI .u64 (IntKind.wrap .u64 (x7 + x9)) 1)) + x8) - 1) - (IntKind.wrap .i64 (shrI .u64 (IntKind.wrap .u64 (x9893 + x9894)) 1)))).bind fun _ =>
  (idx l14 ((((IntKind.wrap .i64 (shrI .u64 (IntKind.wrap .u64 (x7 + x9)) 1)) + x8) - 1) - (IntKind.wrap .i64 (shrI .u64 (IntKind.wrap .u64 (x9893 + x9894)) 1)))).bind fun x9936 =>
  (idx l14 (IntKind.wrap .i64 (shrI .u64 (IntKind.wrap .u64 (x9893 + x9894)) 1))).bind fun x9952 =>
  (mFleetOrder_1 x9936 x9952 l13).bind fun x9968 =>
  if x9968 < 0 then (
  some (.inl (x9893, IntKind.wrap .i64 (shrI .u64 (IntKind.wrap .u64 (x9893 + x9894)) 1))))
  else (
  (chk ((IntKind.wrap .i64 (shrI .u64 (IntKind.wrap .u64 (x9893 + x9894)) 1)) + 1)).bind fun _ =>
  some (.inl ((IntKind.wrap .i64 (shrI .u64 (IntKind.wrap .u64 (x9893 + x9894)) 1)) + 1, x9894))))
  else (
  some (.inr x9893))

/-- slices.symMergeCmpFunc[int] -/
noncomputable def mSlicesSymMergeCmpFunc : Nat → (Int) → (Int) → (Int) → ((List FleetTask)) → ((List Int)) → Option ((List Int))
  | 0 => fun _ _ _ _ _ => none
  | N + 1 => fun x7 x8 x9 l13 l14 =>
  (chk (x8 - x7)).bind fun _ =>
  if (x8 - x7) = 1 then (
  (loopM (mSlicesSymMergeCmpFunc_L6951 x7 l13 l14) (x8, x9)).bind (fun x6949 =>
  (loopM (mSlicesSymMergeCmpFunc_L7644 x6949) (x7, l14)).bind (fun l7641 =>
  some l7641)))
  else (
  (chk (x9 - x8)).bind fun _ =>
  if (x9 - x8) = 1 then (
  (loopM (mSlicesSymMergeCmpFunc_L8335 x8 l13 l14) (x7, x8)).bind (fun x8333 =>
  (loopM (mSlicesSymMergeCmpFunc_L9025 x8333) (x8, l14)).bind (fun l9022 =>
  some l9022)))
  else (
  (chk (x7 + x9)).bind fun _ =>
  (shN 1).bind fun _ =>
  (chk ((IntKind.wrap .i64 (shrI .u64 (IntKind.wrap .u64 (x7 + x9)) 1)) + x8)).bind fun _ =>
  (if (IntKind.wrap .i64 (shrI .u64 (IntKind.wrap .u64 (x7 + x9)) 1)) < x8 then (
  (chk (((IntKind.wrap .i64 (shrI .u64 (IntKind.wrap .u64 (x7 + x9)) 1)) + x8) - x9)).bind fun _ =>
  some (((IntKind.wrap .i64 (shrI .u64 (IntKind.wrap .u64 (x7 + x9)) 1)) + x8) - x9, IntKind.wrap .i64 (shrI .u64 (IntKind.wrap .u64 (x7 + x9)) 1)))
  else (
  some (x7, x8))).bind (unc2 fun x9476 x9477 =>
  (chk (((IntKind.wrap .i64 (shrI .u64 (IntKind.wrap .u64 (x7 + x9)) 1)) + x8) - 1)).bind fun _ =>
  (loopM (mSlicesSymMergeCmpFunc_L9730 x7 x8 x9 l13 l14) (x9476, x9477)).bind (fun x9728 =>
  (chk (((IntKind.wrap .i64 (shrI .u64 (IntKind.wrap .u64 (x7 + x9)) 1)) + x8) - x9728)).bind fun _ =>
  ((if x9728 < x8 then (
  some (decide (x8 < (((IntKind.wrap .i64 (shrI .u64 (IntKind.wrap .u64 (x7 + x9)) 1)) + x8) - x9728))))
  else (
  some false)).bind (fun x10000 =>
  if x10000 = true then (
  (mSlicesRotateCmpFunc x9728 x8 (((IntKind.wrap .i64 (shrI .u64 (IntKind.wrap .u64 (x7 + x9)) 1)) + x8) - x9728) l13 l14).bind fun l10004 =>
  some l10004)
  else (
  some l14))).bind (fun l9994 =>
  ((if x7 < x9728 then (
  some (decide (x9728 < (IntKind.wrap .i64 (shrI .u64 (IntKind.wrap .u64 (x7 + x9)) 1)))))
  else (
  some false)).bind (fun x10036 =>
  if x10036 = true then (
  ((mSlicesSymMergeCmpFunc N) x7 x9728 (IntKind.wrap .i64 (shrI .u64 (IntKind.wrap .u64 (x7 + x9)) 1)) l13 l9994).bind fun l10040 =>
  some l10040)
  else (
  some l9994))).bind (fun l10030 =>
  (if (IntKind.wrap .i64 (shrI .u64 (IntKind.wrap .u64 (x7 + x9)) 1)) < (((IntKind.wrap .i64 (shrI .u64 (IntKind.wrap .u64 (x7 + x9)) 1)) + x8) - x9728) then (
  some (decide ((((IntKind.wrap .i64 (shrI .u64 (IntKind.wrap .u64 (x7 + x9)) 1)) + x8) - x9728) < x9)))
  else (
  some false)).bind (fun x10050 =>
  if x10050 = true then (
  ((mSlicesSymMergeCmpFunc N) (IntKind.wrap .i64 (shrI .u64 (IntKind.wrap .u64 (x7 + x9)) 1)) (((IntKind.wrap .i64 (shrI .u64 (IntKind.wrap .u64 (x7 + x9)) 1)) + x8) - x9728) x9 l13 l10030).bind fun l10054 =>
  some l10054)
  else (
  some l10030))))))))

noncomputable def mSlicesStableCmpFunc_L604 (x7 : Int) (l11 : (List FleetTask)) : (Int × Int × (List Int)) → Option ((Int × Int × (List Int)) ⊕ (Int × (List Int))) := unc3 fun x635 x636 l637 =>
  if x636 ≤ x7 then (
  (mSlicesInsertionSortCmpFunc x635 x636 l11 l637).bind fun l640 =>
  (chk (x636 + 20)).bind fun _ =>
  some (.inl (x636, x636 + 20, l640)))
  else (
  some (.inr (x635, l637)))

noncomputable def mSlicesStableCmpFunc_L1007 (x7 : Int) (l11 : (List FleetTask)) (x943 : Int) : (Int × Int × (List Int)) → Option ((Int × Int × (List Int)) ⊕ (Int × (List Int))) := unc3 fun x1042 x1043 l1044 =>
  if x1043 ≤ x7 then (
  (chk (x1042 + x943)).bind fun _ =>
  (lim (fun N => mSlicesSymMergeCmpFunc N x1042 (x1042 + x943) x1043 l11 l1044)).bind fun l1048 =>
  (chk (2 * x943)).bind fun _ =>
  (chk (x1043 + (2 * x943))).bind fun _ =>
  some (.inl (x1043, x1043 + (2 * x943), l1048)))
  else (
  some (.inr (x1042, l1044)))

noncomputable def mSlicesStableCmpFunc_L655 (x7 : Int) (l11 : (List FleetTask)) : (Int × (List Int)) → Option ((Int × (List Int)) ⊕ ((List Int))) := unc2 fun x943 l944 =>
  if x943 < x7 then (
  (chk (2 * x943)).bind fun _ =>
  (loopM (mSlicesStableCmpFunc_L1007 x7 l11 x943) (0, 2 * x943, l944)).bind (unc2 fun x1003 l1004 =>
  ((chk (x1003 + x943)).bind fun _ =>
  if (x1003 + x943) < x7 then (
  (lim (fun N => mSlicesSymMergeCmpFunc N x1003 (x1003 + x943) x7 l11 l1004)).bind fun l1076 =>
  some l1076)
  else (
  some l1004)).bind (fun l1071 =>
  (chk (x943 * 2)).bind fun _ =>
  some (.inl (x943 * 2, l1071)))))
  else (
  some (.inr l944))

/-- slices.stableCmpFunc[int] -/
noncomputable def mSlicesStableCmpFunc (x7 : Int) (l11 : (List FleetTask)) (l12 : (List Int)) : Option ((List Int)) :=
  (loopM (mSlicesStableCmpFunc_L604 x7 l11) (0, 20, l12)).bind (unc2 fun x600 l601 =>
  (mSlicesInsertionSortCmpFunc x600 x7 l11 l601).bind fun l648 =>
  loopM (mSlicesStableCmpFunc_L655 x7 l11) (20, l648))

/-- slices.SortStableFunc[[]int,int] -/
noncomputable def mSlicesSortStableFunc (l10 : (List FleetTask)) (l11 : (List Int)) : Option ((List Int)) :=
  (mSlicesStableCmpFunc (l11.length : Int) l10 l11).bind fun l24 =>
  some l24

noncomputable def mFleetOrder_L103  (k153 : Nat) : ((List Int)) → Option ((List Int)) := fun l151 =>
  (idx l151 (k153 : Int)).bind fun _ =>
  some (put l151 (k153 : Int) (k153 : Int))

/-- fishplate/fleet.order -/
noncomputable def mFleetOrder (l4 : (List FleetTask)) : Option ((List Int)) :=
  (mkLen 8 (l4.length : Int)).bind fun m97 =>
  (forS mFleetOrder_L103 ((List.replicate m97 (0 : Int)).length) 0 (List.replicate m97 (0 : Int))).bind (fun l151 =>
  (mSlicesSortStableFunc l4 l151).bind fun l174 =>
  some l174)

/-- fishplate/fleet.follows -/
noncomputable def mFleetFollows (s1 : FleetTask) (s2 : FleetTask) (x3 : Int) : Option (Bool) :=
  (if s2.From = s1.To then (
  (chk (s1.Arr + x3)).bind fun _ =>
  some (decide ((s1.Arr + x3) ≤ s2.Dep)))
  else (
  some false)).bind (fun x21 =>
  some x21)

noncomputable def mFleetTurns_L23978 (l4 : (List FleetTask)) (x5 : Int) (l23974 : (List (List Int))) (x21087 : Int) (k24884 : Nat) : (Int) → Option (Int) := fun x24883 =>
  (idx l23974 (k24884 : Int)).bind fun x24887 =>
  (chk ((x24887.length : Int) - 1)).bind fun _ =>
  (idx x24887 ((x24887.length : Int) - 1)).bind fun x24908 =>
  (if x24908 ≠ x21087 then (
  (idx l4 x24908).bind fun x25235 =>
  (idx l4 x21087).bind fun x25245 =>
  (mFleetFollows x25235 x25245 x5).bind fun x25255 =>
  if x25255 = true then (
  if x24883 < 0 then (
  some true)
  else (
  (idx l4 x24908).bind fun x25259 =>
  (idx l23974 x24883).bind fun x25269 =>
  (idx l23974 x24883).bind fun x25289 =>
  (chk ((x25289.length : Int) - 1)).bind fun _ =>
  (idx x25269 ((x25289.length : Int) - 1)).bind fun x25310 =>
  (idx l4 x25310).bind fun x25326 =>
  some (decide (x25259.Arr < x25326.Arr))))
  else (
  some false))
  else (
  some false)).bind (fun x25130 =>
  if x25130 = true then (
  some (k24884 : Int))
  else (
  some x24883))

noncomputable def mFleetTurns_L21113 (l4 : (List FleetTask)) (x5 : Int) (x21087 : Int) (_k23975 : Nat) : ((List (List Int))) → Option ((List (List Int))) := fun l23974 =>
  (forS (mFleetTurns_L23978 l4 x5 l23974 x21087) l23974.length 0 (-1)).bind (fun x24883 =>
  (if x24883 < 0 then (
  (room 24 (l23974.length + 1)).bind fun _ =>
  (chk (((l23974 ++ [[]]).length : Int) - 1)).bind fun _ =>
  some (((l23974 ++ [[]]).length : Int) - 1, l23974 ++ [[]]))
  else (
  some (x24883, l23974))).bind (unc2 fun x25352 l25353 =>
  (idx l25353 x25352).bind fun x25363 =>
  (room 8 (x25363.length + 1)).bind fun _ =>
  (idx l25353 x25352).bind fun _ =>
  some (put l25353 x25352 (x25363 ++ [x21087]))))

noncomputable def mFleetTurns_L12718 (l4 : (List FleetTask)) (x5 : Int) (l12710 : (List Int)) (k21084 : Nat) : ((List (List Int))) → Option ((List (List Int))) := fun l21083 =>
  (idx l12710 (k21084 : Int)).bind fun x21087 =>
  (idx l4 x21087).bind fun x21103 =>
  (chk x21103.Units).bind fun _ =>
  (forS (mFleetTurns_L21113 l4 x5 x21087) ((x21103.Units).toNat) 0 l21083).bind (fun l23974 =>
  some l23974)

/-- fishplate/fleet.Turns -/
noncomputable def mFleetTurns (l4 : (List FleetTask)) (x5 : Int) : Option (Int × (List (List Int))) :=
  (mFleetCheckTurn l4 x5).bind fun x12707 =>
  if x12707 ≠ 0 then (
  some (x12707, []))
  else (
  (mFleetOrder l4).bind fun l12710 =>
  (forS (mFleetTurns_L12718 l4 x5 l12710) l12710.length 0 ([] : (List (List Int)))).bind (fun l21083 =>
  some (0, l21083)))

/-- fishplate/fishkeep2.awakeFleet -/
noncomputable def mFishkeep2AwakeFleet : Option (Bool) :=
  (mFleetTurns [(⟨0, 0, 0, 0, 0, 0⟩ : FleetTask)] (-1)).bind (unc2 fun x25 _ =>
  some (decide (x25 ≠ 0)))

noncomputable def mSlicesEqual_L104 (l4 : (List Int)) (l8 : (List Int)) (k149 : Nat) : (Unit) → Option ((Unit) ⊕ (Bool)) := fun _ =>
  (idx l4 (k149 : Int)).bind fun x173 =>
  (idx l8 (k149 : Int)).bind fun x183 =>
  if x173 ≠ x183 then (
  some (.inr false))
  else (
  some (.inl ()))

/-- slices.Equal[[]int,int] -/
noncomputable def mSlicesEqual (l4 : (List Int)) (l8 : (List Int)) : Option (Bool) :=
  if (l4.length : Int) ≠ (l8.length : Int) then (
  some false)
  else (
  (forM (mSlicesEqual_L104 l4 l8) l4.length 0 ()).bind fun t => Sum.elim (fun _ =>
  some true) (fun q => some q) t)

/-- fishplate/fishkeep2.sets -/
noncomputable def mFishkeep2Sets : Option (Bool) :=
  (mFleetTurns [(⟨0, 1, 10, 20, 0, 1⟩ : FleetTask), (⟨1, 0, 25, 29, 0, 1⟩ : FleetTask)] 0).bind (unc2 fun x83 l84 =>
  (if x83 = 0 then (
  if (l84.length : Int) = 1 then (
  (idx l84 0).bind fun x125 =>
  (mSlicesEqual x125 [0, 1]).bind fun x148 =>
  some x148)
  else (
  some false))
  else (
  some false)).bind (fun x121 =>
  some x121))

/-- fishplate/fishref2.within -/
noncomputable def mFishref2Within (x1 : Int) (x2 : Int) (x3 : Int) : Option (Bool) :=
  (if x2 ≤ x1 then (
  some (decide (x1 ≤ x3)))
  else (
  some false)).bind (fun x14 =>
  some x14)

noncomputable def mFishref2TasksFault_L128 (l4 : (List FleetTask)) (k186 : Nat) : (Unit) → Option ((Unit) ⊕ (Int)) := fun _ =>
  (idx l4 (k186 : Int)).bind fun x190 =>
  ((mFishref2Within x190.From 0 11).bind fun x216 =>
  if x216 = true then (
  (mFishref2Within x190.To 0 11).bind fun x219 =>
  if x219 = true then (
  (mFishref2Within x190.Dep 0 28800).bind fun x222 =>
  if x222 = true then (
  (mFishref2Within x190.Arr 0 28800).bind fun x225 =>
  some (!x225))
  else (
  some true))
  else (
  some true))
  else (
  some true)).bind (fun x214 =>
  if x214 = true then (
  some (.inr 2))
  else (
  if x190.Arr ≤ x190.Dep then (
  some (.inr 13))
  else (
  ((mFishref2Within x190.Km 0 10000).bind fun x240 =>
  if x240 = true then (
  (mFishref2Within x190.Units 1 4).bind fun x243 =>
  some (!x243))
  else (
  some true)).bind (fun x238 =>
  if x238 = true then (
  some (.inr 2))
  else (
  some (.inl ()))))))

/-- fishplate/fishref2.TasksFault -/
noncomputable def mFishref2TasksFault (l4 : (List FleetTask)) : Option (Int) :=
  if 40 < (l4.length : Int) then (
  some 4)
  else (
  (forM (mFishref2TasksFault_L128 l4) l4.length 0 ()).bind fun t => Sum.elim (fun _ =>
  some 0) (fun q => some q) t)

/-- fishplate/fishref2.TurnFault -/
noncomputable def mFishref2TurnFault (l4 : (List FleetTask)) (x5 : Int) : Option (Int) :=
  (mFishref2TasksFault l4).bind fun x13 =>
  if x13 ≠ 0 then (
  some x13)
  else (
  (mFishref2Within x5 0 28800).bind fun x16 =>
  if x16 = true then (
  some 0)
  else (
  some 2))

noncomputable def mFishref2EmptyFault_L1641 (k1624 : Nat) (x1628 : (List Int)) (k1665 : Nat) : (Unit) → Option ((Unit) ⊕ ((Unit) ⊕ (Int))) := fun _ =>
  (idx x1628 (k1665 : Int)).bind fun x1669 =>
  (mFishref2Within x1669 0 28800).bind fun x1679 =>
  if x1679 = true then (
  (if (k1624 : Int) = (k1665 : Int) then (
  some (decide (x1669 ≠ 0)))
  else (
  some false)).bind (fun x1687 =>
  if x1687 = true then (
  some (.inr (.inr 1)))
  else (
  some (.inl ()))))
  else (
  some (.inr (.inr 2)))

noncomputable def mFishref2EmptyFault_L2593 (l9 : (List (List Int))) (k2290 : Nat) (k2589 : Nat) (k2738 : Nat) : (Unit) → Option ((Unit) ⊕ ((Unit) ⊕ ((Unit) ⊕ (Int)))) := fun _ =>
  (idx l9 (k2290 : Int)).bind fun x2812 =>
  (idx x2812 (k2738 : Int)).bind fun x2825 =>
  (idx l9 (k2290 : Int)).bind fun x2835 =>
  (idx x2835 (k2589 : Int)).bind fun x2848 =>
  (idx l9 (k2589 : Int)).bind fun x2858 =>
  (idx x2858 (k2738 : Int)).bind fun x2871 =>
  (chk (x2848 + x2871)).bind fun _ =>
  if (x2848 + x2871) < x2825 then (
  some (.inr (.inr (.inr 1))))
  else (
  some (.inl ()))

noncomputable def mFishref2EmptyFault_L2294 (l9 : (List (List Int))) (k2290 : Nat) (k2589 : Nat) : (Unit) → Option ((Unit) ⊕ ((Unit) ⊕ (Int))) := fun _ =>
  (forM (mFishref2EmptyFault_L2593 l9 k2290 k2589) l9.length 0 ()).bind fun t => Sum.elim (fun _ =>
  some (.inl ())) (fun q => some q) t

noncomputable def mFishref2EmptyFault_L2889 (l4 : (List FleetTask)) (l9 : (List (List Int))) (k2953 : Nat) : (Unit) → Option ((Unit) ⊕ (Int)) := fun _ =>
  (idx l4 (k2953 : Int)).bind fun x2957 =>
  (idx l9 x2957.From).bind fun x2992 =>
  (idx x2992 x2957.To).bind fun x3005 =>
  (chk (x2957.Arr - x2957.Dep)).bind fun _ =>
  if (x2957.Arr - x2957.Dep) < x3005 then (
  some (.inr 1))
  else (
  some (.inl ()))

noncomputable def mFishref2EmptyFault_L1695 (l9 : (List (List Int))) (k2290 : Nat) : (Unit) → Option ((Unit) ⊕ (Int)) := fun _ =>
  (forM (mFishref2EmptyFault_L2294 l9 k2290) l9.length 0 ()).bind fun t => Sum.elim (fun _ =>
  some (.inl ())) (fun q => some q) t

noncomputable def mFishref2EmptyFault_L1558 (l9 : (List (List Int))) (k1624 : Nat) : (Unit) → Option ((Unit) ⊕ (Int)) := fun _ =>
  (idx l9 (k1624 : Int)).bind fun x1628 =>
  (forM (mFishref2EmptyFault_L1641 k1624 x1628) x1628.length 0 ()).bind fun t => Sum.elim (fun _ =>
  some (.inl ())) (fun q => some q) t

noncomputable def mFishref2EmptyFault_L1520 (l9 : (List (List Int))) (k1538 : Nat) : (Unit) → Option ((Unit) ⊕ (Int)) := fun _ =>
  (idx l9 (k1538 : Int)).bind fun x1542 =>
  if (x1542.length : Int) ≠ 12 then (
  some (.inr 1))
  else (
  some (.inl ()))

/-- fishplate/fishref2.EmptyFault -/
noncomputable def mFishref2EmptyFault (l4 : (List FleetTask)) (x5 : Int) (l9 : (List (List Int))) : Option (Int) :=
  (mFishref2TurnFault l4 x5).bind fun x1515 =>
  if x1515 ≠ 0 then (
  some x1515)
  else (
  if 20 < (l4.length : Int) then (
  some 4)
  else (
  if (l9.length : Int) ≠ 12 then (
  some 1)
  else (
  (forM (mFishref2EmptyFault_L1520 l9) l9.length 0 ()).bind fun t => Sum.elim (fun _ =>
  (forM (mFishref2EmptyFault_L1558 l9) l9.length 0 ()).bind fun t => Sum.elim (fun _ =>
  (forM (mFishref2EmptyFault_L1695 l9) l9.length 0 ()).bind fun t => Sum.elim (fun _ =>
  (forM (mFishref2EmptyFault_L2889 l4 l9) l4.length 0 ()).bind fun t => Sum.elim (fun _ =>
  some 0) (fun q => some q) t) (fun q => some q) t) (fun q => some q) t) (fun q => some q) t)))

/-- fishplate/fleet.checkSecs-1 -/
noncomputable def mFleetCheckSecs_1 (l4 : (List Int)) : Option (Bool) :=
  some (decide ((l4.length : Int) ≠ 12))

noncomputable def mSlicesIndexFunc_L48 (l4 : (List (List Int))) (k68 : Nat) : (Unit) → Option ((Unit) ⊕ (Int)) := fun _ =>
  (idx l4 (k68 : Int)).bind fun x72 =>
  (mFleetCheckSecs_1 x72).bind fun x85 =>
  if x85 = true then (
  some (.inr (k68 : Int)))
  else (
  some (.inl ()))

/-- slices.IndexFunc[[][]int,[]int] -/
noncomputable def mSlicesIndexFunc (l4 : (List (List Int))) : Option (Int) :=
  (forM (mSlicesIndexFunc_L48 l4) l4.length 0 ()).bind fun t => Sum.elim (fun _ =>
  some (-1)) (fun q => some q) t

/-- slices.ContainsFunc[[][]int,[]int] -/
noncomputable def mSlicesContainsFunc (l4 : (List (List Int))) : Option (Bool) :=
  (mSlicesIndexFunc l4).bind fun x8 =>
  some (decide (0 ≤ x8))

/-- fishplate/fleet.checkSecs-2 -/
noncomputable def mFleetCheckSecs_2 (s2 : FleetTask) (l6 : (List (List Int))) : Option (Bool) :=
  (idx l6 s2.From).bind fun x82 =>
  (idx x82 s2.To).bind fun x95 =>
  (chk (s2.Arr - s2.Dep)).bind fun _ =>
  some (decide ((s2.Arr - s2.Dep) < x95))

noncomputable def mSlicesIndexFunc_2_L51 (l5 : (List FleetTask)) (l9 : (List (List Int))) (k70 : Nat) : (Unit) → Option ((Unit) ⊕ (Int)) := fun _ =>
  (idx l5 (k70 : Int)).bind fun x74 =>
  (mFleetCheckSecs_2 x74 l9).bind fun x84 =>
  if x84 = true then (
  some (.inr (k70 : Int)))
  else (
  some (.inl ()))

/-- slices.IndexFunc[[]fishplate/fleet.Task,fishplate/fleet.Task] -/
noncomputable def mSlicesIndexFunc_2 (l5 : (List FleetTask)) (l9 : (List (List Int))) : Option (Int) :=
  (forM (mSlicesIndexFunc_2_L51 l5 l9) l5.length 0 ()).bind fun t => Sum.elim (fun _ =>
  some (-1)) (fun q => some q) t

/-- slices.ContainsFunc[[]fishplate/fleet.Task,fishplate/fleet.Task] -/
noncomputable def mSlicesContainsFunc_2 (l5 : (List FleetTask)) (l9 : (List (List Int))) : Option (Bool) :=
  (mSlicesIndexFunc_2 l5 l9).bind fun x15 =>
  some (decide (0 ≤ x15))

noncomputable def mFleetCheckSecs_L1462 (k1445 : Nat) (x1449 : (List Int)) (k1486 : Nat) : (Unit) → Option ((Unit) ⊕ ((Unit) ⊕ (Int))) := fun _ =>
  (idx x1449 (k1486 : Int)).bind fun x1490 =>
  (mFleetWithin x1490 0 28800).bind fun x1500 =>
  if x1500 = true then (
  (if (k1445 : Int) = (k1486 : Int) then (
  some (decide (x1490 ≠ 0)))
  else (
  some false)).bind (fun x1508 =>
  if x1508 = true then (
  some (.inr (.inr 1)))
  else (
  some (.inl ()))))
  else (
  some (.inr (.inr 2)))

noncomputable def mFleetCheckSecs_L2414 (l9 : (List (List Int))) (k2111 : Nat) (k2410 : Nat) (k2559 : Nat) : (Unit) → Option ((Unit) ⊕ ((Unit) ⊕ ((Unit) ⊕ (Int)))) := fun _ =>
  (idx l9 (k2111 : Int)).bind fun x2633 =>
  (idx x2633 (k2559 : Int)).bind fun x2646 =>
  (idx l9 (k2111 : Int)).bind fun x2656 =>
  (idx x2656 (k2410 : Int)).bind fun x2669 =>
  (idx l9 (k2410 : Int)).bind fun x2679 =>
  (idx x2679 (k2559 : Int)).bind fun x2692 =>
  (chk (x2669 + x2692)).bind fun _ =>
  if (x2669 + x2692) < x2646 then (
  some (.inr (.inr (.inr 1))))
  else (
  some (.inl ()))

noncomputable def mFleetCheckSecs_L2115 (l9 : (List (List Int))) (k2111 : Nat) (k2410 : Nat) : (Unit) → Option ((Unit) ⊕ ((Unit) ⊕ (Int))) := fun _ =>
  (forM (mFleetCheckSecs_L2414 l9 k2111 k2410) l9.length 0 ()).bind fun t => Sum.elim (fun _ =>
  some (.inl ())) (fun q => some q) t

noncomputable def mFleetCheckSecs_L1516 (l9 : (List (List Int))) (k2111 : Nat) : (Unit) → Option ((Unit) ⊕ (Int)) := fun _ =>
  (forM (mFleetCheckSecs_L2115 l9 k2111) l9.length 0 ()).bind fun t => Sum.elim (fun _ =>
  some (.inl ())) (fun q => some q) t

noncomputable def mFleetCheckSecs_L1379 (l9 : (List (List Int))) (k1445 : Nat) : (Unit) → Option ((Unit) ⊕ (Int)) := fun _ =>
  (idx l9 (k1445 : Int)).bind fun x1449 =>
  (forM (mFleetCheckSecs_L1462 k1445 x1449) x1449.length 0 ()).bind fun t => Sum.elim (fun _ =>
  some (.inl ())) (fun q => some q) t

/-- fishplate/fleet.checkSecs -/
noncomputable def mFleetCheckSecs (l4 : (List FleetTask)) (x5 : Int) (l9 : (List (List Int))) : Option (Int) :=
  (mFleetCheckTurn l4 x5).bind fun x1364 =>
  if x1364 ≠ 0 then (
  some x1364)
  else (
  if 20 < (l4.length : Int) then (
  some 4)
  else (
  (if (l9.length : Int) ≠ 12 then (
  some true)
  else (
  (mSlicesContainsFunc l9).bind fun x1376 =>
  some x1376)).bind (fun x1373 =>
  if x1373 = true then (
  some 1)
  else (
  (forM (mFleetCheckSecs_L1379 l9) l9.length 0 ()).bind fun t => Sum.elim (fun _ =>
  (forM (mFleetCheckSecs_L1516 l9) l9.length 0 ()).bind fun t => Sum.elim (fun _ =>
  (mSlicesContainsFunc_2 l4 l9).bind fun x2710 =>
  if x2710 = true then (
  some 1)
  else (
  some 0)) (fun q => some q) t) (fun q => some q) t))))

/-- math/bits.Mul64 -/
noncomputable def mBitsMul64 (x1 : Int) (x2 : Int) : Option (Int × Int) :=
  (shN 32).bind fun _ =>
  (shN 32).bind fun _ =>
  (shN 32).bind fun _ =>
  (shN 32).bind fun _ =>
  (shN 32).bind fun _ =>
  some (IntKind.wrap .u64 ((IntKind.wrap .u64 ((IntKind.wrap .u64 ((shrI .u64 x1 32) * (shrI .u64 x2 32))) + (shrI .u64 (IntKind.wrap .u64 ((IntKind.wrap .u64 ((shrI .u64 x1 32) * (andI .u64 x2 4294967295))) + (shrI .u64 (IntKind.wrap .u64 ((andI .u64 x1 4294967295) * (andI .u64 x2 4294967295))) 32))) 32))) + (shrI .u64 (IntKind.wrap .u64 ((andI .u64 (IntKind.wrap .u64 ((IntKind.wrap .u64 ((shrI .u64 x1 32) * (andI .u64 x2 4294967295))) + (shrI .u64 (IntKind.wrap .u64 ((andI .u64 x1 4294967295) * (andI .u64 x2 4294967295))) 32))) 4294967295) + (IntKind.wrap .u64 ((andI .u64 x1 4294967295) * (shrI .u64 x2 32))))) 32)), IntKind.wrap .u64 (x1 * x2))

/-- math/bits.Mul -/
noncomputable def mBitsMul (x1 : Int) (x2 : Int) : Option (Int × Int) :=
  (mBitsMul64 x1 x2).bind (unc2 fun x8 x9 =>
  some (x8, x9))

noncomputable def mSlicesRepeat_L612  : (Int × (List Int)) → Option ((Int × (List Int)) ⊕ ((List Int))) := unc2 fun x734 l735 =>
  if x734 < (l735.length : Int) then (
  (cutS l735 x734 (l735.length : Int)).bind fun _ =>
  (cutS l735 0 x734).bind fun l775 =>
  (chk (x734 + (cpyN x734 (l735.length : Int) l775))).bind fun _ =>
  some (.inl (x734 + (cpyN x734 (l735.length : Int) l775), cpyI l735 x734 (l735.length : Int) l775)))
  else (
  some (.inr l735))

/-- slices.Repeat[[]int,int] -/
noncomputable def mSlicesRepeat (l4 : (List Int)) (x5 : Int) : Option ((List Int)) :=
  if x5 < 0 then (
  none)
  else (
  (mBitsMul (IntKind.wrap .u64 (l4.length : Int)) (IntKind.wrap .u64 x5)).bind (unc2 fun x403 x404 =>
  (if 0 < x403 then (
  some true)
  else (
  some (decide (9223372036854775807 < x404)))).bind (fun x409 =>
  if x409 = true then (
  none)
  else (
  (mkLen 8 (IntKind.wrap .i64 x404)).bind fun m413 =>
  (loopM mSlicesRepeat_L612 (cpyN 0 ((List.replicate m413 (0 : Int)).length : Int) l4, cpyI (List.replicate m413 (0 : Int)) 0 ((List.replicate m413 (0 : Int)).length : Int) l4)).bind (fun l609 =>
  some l609)))))

noncomputable def mFleetMatchingGrow_L1778 (l24 : (List (List Bool))) (x22 : Int) (x1759 : (List Bool)) (rcmFleetMatchingGrow : (Int) → ((List Bool)) → ((List (List Bool))) → ((List Int)) → ((List Int)) → Option (Bool × (List Bool) × (List Int) × (List Int))) (k2496 : Nat) : ((List Bool) × (List Int) × (List Int)) → Option (((List Bool) × (List Int) × (List Int)) ⊕ (Bool × (List Bool) × (List Int) × (List Int))) := unc3 fun l2490 l2492 l2494 =>
  (idx x1759 (k2496 : Int)).bind fun x2500 =>
  (if x2500 = true then (
  (idx l2490 (k2496 : Int)).bind fun x2532 =>
  some x2532)
  else (
  some true)).bind (fun x2529 =>
  if x2529 = true then (
  some (.inl (l2490, l2492, l2494)))
  else (
  (idx l2490 (k2496 : Int)).bind fun _ =>
  ((idx l2494 (k2496 : Int)).bind fun x2635 =>
  if x2635 < 0 then (
  some (true, put l2490 (k2496 : Int) true, l2492, l2494))
  else (
  (idx l2494 (k2496 : Int)).bind fun x2652 =>
  (rcmFleetMatchingGrow x2652 (put l2490 (k2496 : Int) true) l24 l2492 l2494).bind (unc4 fun x2668 l2669 l2670 l2671 =>
  some (x2668, l2669, l2670, l2671)))).bind (unc4 fun x2627 l2628 l2630 l2632 =>
  if x2627 = true then (
  ((idx l2630 x22).bind fun _ =>
  (idx l2632 (k2496 : Int)).bind fun _ =>
  some (put l2630 x22 (k2496 : Int), put l2632 (k2496 : Int) x22)).bind (unc2 fun l2765 l2767 =>
  some (.inr (true, l2628, l2765, l2767))))
  else (
  some (.inl (l2628, l2630, l2632))))))

/-- (*fishplate/fleet.matching).grow -/
noncomputable def mFleetMatchingGrow : Nat → (Int) → ((List Bool)) → ((List (List Bool))) → ((List Int)) → ((List Int)) → Option (Bool × (List Bool) × (List Int) × (List Int))
  | 0 => fun _ _ _ _ _ => none
  | N + 1 => fun x22 l23 l24 l25 l26 =>
  (idx l24 x22).bind fun x1759 =>
  (forM (mFleetMatchingGrow_L1778 l24 x22 x1759 (mFleetMatchingGrow N)) x1759.length 0 (l23, l25, l26)).bind fun t => Sum.elim (unc3 fun l2490 l2492 l2494 =>
  some (false, l2490, l2492, l2494)) (fun q => some q) t

noncomputable def mFleetMatch_L1528 (l4 : (List FleetTask)) (l9 : (List (List Int))) (x5 : Int) (x1517 : FleetTask) (k1692 : Nat) : ((List Bool)) → Option ((List Bool)) := fun l1691 =>
  (idx l4 (k1692 : Int)).bind fun x1695 =>
  (chk (x1517.Arr + x5)).bind fun _ =>
  (idx l9 x1517.To).bind fun x1738 =>
  (idx x1738 x1695.From).bind fun x1751 =>
  (chk ((x1517.Arr + x5) + x1751)).bind fun _ =>
  (room 1 (l1691.length + 1)).bind fun _ =>
  some (l1691 ++ [decide (((x1517.Arr + x5) + x1751) ≤ x1695.Dep)])

noncomputable def mFleetMatch_L1778 (l4 : (List FleetTask)) (l1513 : (List (List Bool))) (k1850 : Nat) : ((List Int) × (List Int)) → Option ((List Int) × (List Int)) := unc2 fun l1848 l1849 =>
  (mkLen 1 (l4.length : Int)).bind fun m1853 =>
  (lim (fun N => mFleetMatchingGrow N (k1850 : Int) (List.replicate m1853 (false : Bool)) l1513 l1848 l1849)).bind (unc4 fun _ _ l1861 l1862 =>
  some (l1861, l1862))

noncomputable def mFleetMatch_L975 (l4 : (List FleetTask)) (l9 : (List (List Int))) (x5 : Int) (k1514 : Nat) : ((List (List Bool))) → Option ((List (List Bool))) := fun l1513 =>
  (idx l4 (k1514 : Int)).bind fun x1517 =>
  (forS (mFleetMatch_L1528 l4 l9 x5 x1517) l4.length 0 ([] : (List Bool))).bind (fun l1691 =>
  (room 24 (l1513.length + 1)).bind fun _ =>
  some (l1513 ++ [l1691]))

/-- fishplate/fleet.match -/
noncomputable def mFleetMatch (l4 : (List FleetTask)) (x5 : Int) (l9 : (List (List Int))) : Option ((List (List Bool)) × (List Int) × (List Int)) :=
  (mSlicesRepeat [(-1)] (l4.length : Int)).bind fun l955 =>
  (mSlicesRepeat [(-1)] (l4.length : Int)).bind fun l966 =>
  (forS (mFleetMatch_L975 l4 l9 x5) l4.length 0 ([] : (List (List Bool)))).bind (fun l1513 =>
  (forS (mFleetMatch_L1778 l4 l1513) l4.length 0 (l955, l966)).bind (unc2 fun l1848 l1849 =>
  some (l1513, l1848, l1849)))

noncomputable def mFleetCovers_L1264 (l693 : (List Int)) : (Int × (List Int)) → Option ((Int × (List Int)) ⊕ ((List Int))) := unc2 fun x1326 l1327 =>
  if 0 ≤ x1326 then (
  (room 8 (l1327.length + 1)).bind fun _ =>
  (idx l693 x1326).bind fun x1335 =>
  some (.inl (x1335, l1327 ++ [x1326])))
  else (
  some (.inr l1327))

noncomputable def mFleetCovers_L711 (l693 : (List Int)) (l694 : (List Int)) (k1148 : Nat) : ((List (List Int))) → Option ((List (List Int))) := fun l1147 =>
  (idx l694 (k1148 : Int)).bind fun x1151 =>
  if 0 ≤ x1151 then (
  some l1147)
  else (
  (loopM (mFleetCovers_L1264 l693) (((k1148 : Int), []) : Int × (List Int))).bind (fun l1262 =>
  (room 24 (l1147.length + 1)).bind fun _ =>
  some (l1147 ++ [l1262])))

/-- fishplate/fleet.Covers -/
noncomputable def mFleetCovers (l4 : (List FleetTask)) (x5 : Int) (l9 : (List (List Int))) : Option (Int × (List (List Int))) :=
  (mFleetCheckSecs l4 x5 l9).bind fun x689 =>
  if x689 ≠ 0 then (
  some (x689, []))
  else (
  (mFleetMatch l4 x5 l9).bind (unc3 fun _ l693 l694 =>
  (forS (mFleetCovers_L711 l693 l694) l4.length 0 ([] : (List (List Int)))).bind (fun l1147 =>
  some (0, l1147))))

noncomputable def mFishkeep2FleetEmpties_L371  (k453 : Nat) : ((List (List Int))) → Option ((List (List Int))) := fun l451 =>
  (mkLen 8 12).bind fun m456 =>
  (idx l451 (k453 : Int)).bind fun _ =>
  some (put l451 (k453 : Int) (List.replicate m456 (0 : Int)))

noncomputable def mFishkeep2FleetEmpties_L272 (l4 : (List FleetTask)) (k323 : Nat) : ((List FleetTask)) → Option ((List FleetTask)) := fun l322 =>
  (idx l4 (k323 : Int)).bind fun x326 =>
  (room 48 (l322.length + 1)).bind fun _ =>
  some (l322 ++ [(⟨x326.From, x326.To, x326.Dep, x326.Arr, x326.Km, 1⟩ : FleetTask)])

/-- fishplate/fishkeep2.FleetEmpties -/
noncomputable def mFishkeep2FleetEmpties (l4 : (List FleetTask)) (x5 : Int) (l9 : (List (List Int))) : Option (Bool) :=
  (mFishkeep2AwakeFleet).bind fun x263 =>
  if x263 = true then (
  (mFishkeep2Sets).bind fun x266 =>
  if x266 = true then (
  (mFishref2EmptyFault l4 x5 l9).bind fun x269 =>
  if x269 ≠ 0 then (
  some true)
  else (
  (forS (mFishkeep2FleetEmpties_L272 l4) l4.length 0 ([] : (List FleetTask))).bind (fun l322 =>
  (mFleetCovers l322 x5 l9).bind (unc2 fun x347 l348 =>
  (mFleetTurns l322 x5).bind (unc2 fun x356 l357 =>
  (mkLen 24 12).bind fun m365 =>
  (forS mFishkeep2FleetEmpties_L371 ((List.replicate m365 (([] : List Int) : (List Int))).length) 0 (List.replicate m365 (([] : List Int) : (List Int)) : (List (List Int)))).bind (fun l451 =>
  (mFleetCovers l322 x5 l451).bind (unc2 fun x494 l495 =>
  (if x347 = 0 then (
  if x356 = 0 then (
  if x494 = 0 then (
  if (l348.length : Int) ≤ (l357.length : Int) then (
  some (decide ((l495.length : Int) ≤ (l348.length : Int))))
  else (
  some false))
  else (
  some false))
  else (
  some false))
  else (
  some false)).bind (fun x509 =>
  some x509))))))))
  else (
  some false))
  else (
  some false)

end Go.Proofs.Ytajmocgpjkhjlaa
