/- The models of the functions, as the extractor printed them. -/
import Derived.Test.YtaagdbecijhkmaaDoorSh2
import Derived.Test.YtaagdbecijhkmaaDoorXS
import Derived.Test.YtaagdbecijhkmaaDoorXT
set_option linter.unusedVariables false
set_option linter.unusedSimpArgs false
namespace Go.Proofs.YtaagdbecijhkmaaDoor
open Go.RowKit Go.Fp

structure ApiSection where
  Kind : Int
  Length : Int
  Grade : Int
  Speed : Int
  Slow : Int
  Station : Int
  Axles : Bool
  deriving DecidableEq
def rApiSection : RT ApiSection := (RT.cat (RT.on (RT.int .i64) ApiSection.Kind) (RT.cat (RT.on (RT.int .i64) ApiSection.Length) (RT.cat (RT.on (RT.int .i64) ApiSection.Grade) (RT.cat (RT.on (RT.int .i64) ApiSection.Speed) (RT.cat (RT.on (RT.int .i64) ApiSection.Slow) (RT.cat (RT.on (RT.int .i64) ApiSection.Station) (RT.on RT.bool ApiSection.Axles)))))))
structure ApiLink where
  A : Int
  EndA : Int
  B : Int
  EndB : Int
  deriving DecidableEq
def rApiLink : RT ApiLink := (RT.cat (RT.on (RT.int .i64) ApiLink.A) (RT.cat (RT.on (RT.int .i64) ApiLink.EndA) (RT.cat (RT.on (RT.int .i64) ApiLink.B) (RT.on (RT.int .i64) ApiLink.EndB))))
structure ApiSignal where
  Section : Int
  End : Int
  deriving DecidableEq
def rApiSignal : RT ApiSignal := (RT.cat (RT.on (RT.int .i64) ApiSignal.Section) (RT.on (RT.int .i64) ApiSignal.End))
structure ApiGate where
  Section : Int
  Close : Int
  deriving DecidableEq
def rApiGate : RT ApiGate := (RT.cat (RT.on (RT.int .i64) ApiGate.Section) (RT.on (RT.int .i64) ApiGate.Close))
structure ApiNet where
  Stations : (List ByteArray)
  Sections : (List ApiSection)
  Links : (List ApiLink)
  Signals : (List ApiSignal)
  Gates : (List ApiGate)
def rApiNet : RT ApiNet := (RT.cat (RT.on (RT.list RT.str) ApiNet.Stations) (RT.cat (RT.on (RT.list rApiSection) ApiNet.Sections) (RT.cat (RT.on (RT.list rApiLink) ApiNet.Links) (RT.cat (RT.on (RT.list rApiSignal) ApiNet.Signals) (RT.on (RT.list rApiGate) ApiNet.Gates)))))
structure LineEnd where
  section_ : Int
  end_ : Int
  deriving DecidableEq
def rLineEnd : RT LineEnd := (RT.cat (RT.on (RT.int .i64) LineEnd.section_) (RT.on (RT.int .i64) LineEnd.end_))

/-- internal/stringslite.HasSuffix -/
noncomputable def mStringsliteHasSuffix (x1 : ByteArray) (x2 : ByteArray) : Option (Bool) :=
  (if (x2.size : Int) ≤ (x1.size : Int) then (
  (chk ((x1.size : Int) - (x2.size : Int))).bind fun _ =>
  (sCut x1 ((x1.size : Int) - (x2.size : Int)) (x1.size : Int)).bind fun q26 =>
  some (sEq q26 x2))
  else (
  some false)).bind (fun x22 =>
  some x22)

/-- internal/stringslite.CutSuffix -/
noncomputable def mStringsliteCutSuffix (x1 : ByteArray) (x2 : ByteArray) : Option (ByteArray × Bool) :=
  (mStringsliteHasSuffix x1 x2).bind fun x11 =>
  if x11 = true then (
  (chk ((x1.size : Int) - (x2.size : Int))).bind fun _ =>
  (sCut x1 0 ((x1.size : Int) - (x2.size : Int))).bind fun q15 =>
  some (q15, true))
  else (
  some (x1, false))

/-- strings.CutSuffix -/
noncomputable def mStringsCutSuffix (x1 : ByteArray) (x2 : ByteArray) : Option (ByteArray × Bool) :=
  (mStringsliteCutSuffix x1 x2).bind (unc2 fun x8 x9 =>
  some (x8, x9))

/-- internal/stringslite.IndexByte -/
noncomputable def mStringsliteIndexByte (x1 : ByteArray) (x2 : Int) : Option (Int) :=
  some (sFirst x1 x2)

/-- internal/stringslite.Index -/
noncomputable def mStringsliteIndex (x1 : ByteArray) (x2 : ByteArray) : Option (Int) :=
  (if (x2.size : Int) = 0 then (
  some true)
  else (
  some (sEq x2 x1))).bind (fun x20 =>
  if x20 = true then (
  some 0)
  else (
  if (x2.size : Int) = 1 then (
  (sIdx x2 0).bind fun x25 =>
  (mStringsliteIndexByte x1 x25).bind fun x27 =>
  some x27)
  else (
  if (x1.size : Int) ≤ (x2.size : Int) then (
  some (-1))
  else (
  none))))

/-- strings.Index -/
noncomputable def mStringsIndex (x1 : ByteArray) (x2 : ByteArray) : Option (Int) :=
  (mStringsliteIndex x1 x2).bind fun x6 =>
  some x6

noncomputable def mStringsCount_L40 (x2 : ByteArray) : (ByteArray × Int) → Option ((ByteArray × Int) ⊕ (Int)) := unc2 fun x59 x60 =>
  (mStringsIndex x59 x2).bind fun x61 =>
  if x61 = (-1) then (
  some (.inr x60))
  else (
  (chk (x60 + 1)).bind fun _ =>
  (chk (x61 + (x2.size : Int))).bind fun _ =>
  (sCut x59 (x61 + (x2.size : Int)) (x59.size : Int)).bind fun q66 =>
  some (.inl (q66, x60 + 1)))

/-- strings.Count -/
noncomputable def mStringsCount (x1 : ByteArray) (x2 : ByteArray) : Option (Int) :=
  if (x2.size : Int) = 0 then (
  none)
  else (
  if (x2.size : Int) = 1 then (
  (sIdx x2 0).bind fun x38 =>
  some (sCount x1 x38))
  else (
  loopM (mStringsCount_L40 x2) (x1, 0)))

noncomputable def mStringsGenSplit_L419 (x1 : ByteArray) (x2 : ByteArray) (x3 : Int) (x291 : Int) : (ByteArray × Int × (List ByteArray)) → Option ((ByteArray × Int × (List ByteArray)) ⊕ (ByteArray × Int × (List ByteArray))) := unc3 fun x490 x491 l492 =>
  if x491 < ((min x291 ((x1.size : Int) + 1)) - 1) then (
  (mStringsIndex x490 x2).bind fun x495 =>
  if x495 < 0 then (
  some (.inr (x490, x491, l492)))
  else (
  (chk (x495 + x3)).bind fun _ =>
  (sCut x490 0 (x495 + x3)).bind fun q499 =>
  (idx l492 x491).bind fun _ =>
  (chk (x495 + (x2.size : Int))).bind fun _ =>
  (sCut x490 (x495 + (x2.size : Int)) (x490.size : Int)).bind fun q520 =>
  (chk (x491 + 1)).bind fun _ =>
  some (.inl (q520, x491 + 1, put l492 x491 q499))))
  else (
  some (.inr (x490, x491, l492)))

/-- strings.genSplit -/
noncomputable def mStringsGenSplit (x1 : ByteArray) (x2 : ByteArray) (x3 : Int) (x4 : Int) : Option ((List ByteArray)) :=
  if x4 = 0 then (
  some [])
  else (
  if (sEq x2 (ByteArray.mk #[])) = true then (
  none)
  else (
  (if x4 < 0 then (
  (mStringsCount x1 x2).bind fun x294 =>
  (chk (x294 + 1)).bind fun _ =>
  some (x294 + 1))
  else (
  some x4)).bind (fun x291 =>
  (chk ((x1.size : Int) + 1)).bind fun _ =>
  (mkLen 16 (min x291 ((x1.size : Int) + 1))).bind fun m298 =>
  (chk ((min x291 ((x1.size : Int) + 1)) - 1)).bind fun _ =>
  (loopM (mStringsGenSplit_L419 x1 x2 x3 x291) (x1, 0, List.replicate m298 (ByteArray.empty : ByteArray))).bind (unc3 fun x414 x415 l416 =>
  (idx l416 x415).bind fun _ =>
  (chk (x415 + 1)).bind fun _ =>
  (cutS (put l416 x415 x414) 0 (x415 + 1)).bind fun l542 =>
  some l542))))

/-- strings.Split -/
noncomputable def mStringsSplit (x1 : ByteArray) (x2 : ByteArray) : Option ((List ByteArray)) :=
  (mStringsGenSplit x1 x2 0 (-1)).bind fun l17 =>
  some l17

noncomputable def mLineLines_L155 (l147 : (List ByteArray)) (k240 : Nat) : ((List (List ByteArray))) → Option ((List (List ByteArray))) := fun l239 =>
  (idx l147 (k240 : Int)).bind fun x243 =>
  (mStringsSplit x243 (ByteArray.mk #[32])).bind fun l259 =>
  (room 24 (l239.length + 1)).bind fun _ =>
  some (l239 ++ [l259])

/-- fishplate/line.Lines -/
noncomputable def mLineLines (x1 : ByteArray) : Option (Bool × (List (List ByteArray))) :=
  if (sEq x1 (ByteArray.mk #[])) = true then (
  some (true, []))
  else (
  (mStringsCutSuffix x1 (ByteArray.mk #[10])).bind (unc2 fun x144 x145 =>
  (mStringsSplit x144 (ByteArray.mk #[10])).bind fun l147 =>
  (forS (mLineLines_L155 l147) l147.length 0 ([] : (List (List ByteArray)))).bind (fun l239 =>
  some (x145, l239))))

/-- strconv.Atoi -/
noncomputable def mStrconvAtoi (x1 : ByteArray) : Option (Int × Bool) :=
  atoiM x1

/-- strconv.Itoa -/
noncomputable def mStrconvItoa (x1 : Int) : Option (ByteArray) :=
  itoaM x1

/-- internal/stringslite.HasPrefix -/
noncomputable def mStringsliteHasPrefix (x1 : ByteArray) (x2 : ByteArray) : Option (Bool) :=
  (if (x2.size : Int) ≤ (x1.size : Int) then (
  (sCut x1 0 (x2.size : Int)).bind fun q22 =>
  some (sEq q22 x2))
  else (
  some false)).bind (fun x19 =>
  some x19)

/-- internal/stringslite.TrimPrefix -/
noncomputable def mStringsliteTrimPrefix (x1 : ByteArray) (x2 : ByteArray) : Option (ByteArray) :=
  (mStringsliteHasPrefix x1 x2).bind fun x9 =>
  if x9 = true then (
  (sCut x1 (x2.size : Int) (x1.size : Int)).bind fun q12 =>
  some q12)
  else (
  some x1)

/-- strings.TrimPrefix -/
noncomputable def mStringsTrimPrefix (x1 : ByteArray) (x2 : ByteArray) : Option (ByteArray) :=
  (mStringsliteTrimPrefix x1 x2).bind fun x6 =>
  some x6

/-- fishplate/line.Number -/
noncomputable def mLineNumber (x1 : ByteArray) : Option (Int × Bool) :=
  (mStrconvAtoi x1).bind (unc2 fun x27 q28 =>
  (if q28 = true then (
  (mStrconvItoa x27).bind fun x45 =>
  if (sEq x45 x1) = true then (
  (mStringsTrimPrefix x1 (ByteArray.mk #[45])).bind fun x48 =>
  some (decide ((x48.size : Int) ≤ 9)))
  else (
  some false))
  else (
  some false)).bind (fun x42 =>
  some (x27, x42)))

noncomputable def mLineNumbers_L95 (l4 : (List ByteArray)) (k152 : Nat) : ((List Int)) → Option (((List Int)) ⊕ (Bool × (List Int))) := fun l151 =>
  (idx l4 (k152 : Int)).bind fun x156 =>
  (mLineNumber x156).bind (unc2 fun x166 x167 =>
  if x167 = true then (
  (room 8 (l151.length + 1)).bind fun _ =>
  some (.inl (l151 ++ [x166])))
  else (
  some (.inr (false, []))))

/-- fishplate/line.Numbers -/
noncomputable def mLineNumbers (l4 : (List ByteArray)) : Option (Bool × (List Int)) :=
  (forM (mLineNumbers_L95 l4) l4.length 0 ([] : (List Int))).bind fun t => Sum.elim (fun l151 =>
  some (true, l151)) (fun q => some q) t

/-- fishplate/line.line -/
noncomputable def mLineLine (l30 : (List ByteArray)) (l31 : (List ByteArray)) (l33 : (List ApiSection)) (l35 : (List ApiLink)) (l37 : (List ApiSignal)) (l39 : (List ApiGate)) : Option (Int × (List ByteArray) × (List ApiSection) × (List ApiLink) × (List ApiSignal) × (List ApiGate)) :=
  (idx l30 0).bind fun x2322 =>
  (cutS l30 1 (l30.length : Int)).bind fun l2332 =>
  if (sEq x2322 (ByteArray.mk #[115, 116, 97, 116, 105, 111, 110])) = true then (
  (if (l2332.length : Int) ≠ 1 then (
  some true)
  else (
  (idx l2332 0).bind fun x2364 =>
  some (sEq x2364 (ByteArray.mk #[])))).bind (fun x2361 =>
  if x2361 = true then (
  some ((-1), l31, l33, l35, l37, l39))
  else (
  ((idx l2332 0).bind fun x2438 =>
  (room 16 (l31.length + 1)).bind fun _ =>
  some (l31 ++ [x2438])).bind (fun l2419 =>
  some (0, l2419, l33, l35, l37, l39)))))
  else (
  (if (sEq x2322 (ByteArray.mk #[112, 108, 97, 105, 110])) = true then (
  some true)
  else (
  if (sEq x2322 (ByteArray.mk #[112, 111, 105, 110, 116, 115])) = true then (
  some true)
  else (
  some (sEq x2322 (ByteArray.mk #[99, 114, 111, 115, 115]))))).bind (fun x2463 =>
  (if x2463 = true then (
  if (l2332.length : Int) = 0 then (
  some (.inr ((-1), l31, l33, l35, l37, l39)))
  else (
  (chk ((l2332.length : Int) - 1)).bind fun _ =>
  (idx l2332 ((l2332.length : Int) - 1)).bind fun x2521 =>
  (chk ((l2332.length : Int) - 1)).bind fun _ =>
  (cutS l2332 0 ((l2332.length : Int) - 1)).bind fun l2532 =>
  (if (sEq x2521 (ByteArray.mk #[97, 120, 108, 101, 115])) = true then (
  some false)
  else (
  some (!(sEq x2521 (ByteArray.mk #[99, 105, 114, 99, 117, 105, 116]))))).bind (fun x2550 =>
  if x2550 = true then (
  some (.inr ((-1), l31, l33, l35, l37, l39)))
  else (
  some (.inl (l2532, sEq x2521 (ByteArray.mk #[97, 120, 108, 101, 115])))))))
  else (
  some (.inl (l2332, false)))).bind fun t => Sum.elim (unc2 fun l2508 x2509 =>
  (mLineNumbers l2508).bind (unc2 fun x2561 l2562 =>
  (some (mgetD (mput (mput (mput (mput (mput (mput ([] : (List (ByteArray × Int))) (ByteArray.mk #[112, 108, 97, 105, 110]) 4) (ByteArray.mk #[112, 111, 105, 110, 116, 115]) 4) (ByteArray.mk #[99, 114, 111, 115, 115]) 2) (ByteArray.mk #[108, 105, 110, 107]) 4) (ByteArray.mk #[115, 105, 103, 110, 97, 108]) 2) (ByteArray.mk #[103, 97, 116, 101]) 2) x2322 0)).bind fun x2594 =>
  (if x2561 = true then (
  if (mhas (mput (mput (mput (mput (mput (mput ([] : (List (ByteArray × Int))) (ByteArray.mk #[112, 108, 97, 105, 110]) 4) (ByteArray.mk #[112, 111, 105, 110, 116, 115]) 4) (ByteArray.mk #[99, 114, 111, 115, 115]) 2) (ByteArray.mk #[108, 105, 110, 107]) 4) (ByteArray.mk #[115, 105, 103, 110, 97, 108]) 2) (ByteArray.mk #[103, 97, 116, 101]) 2) x2322) = true then (
  some (decide ((l2562.length : Int) ≠ x2594)))
  else (
  some true))
  else (
  some true)).bind (fun x2601 =>
  if x2601 = true then (
  some ((-1), l31, l33, l35, l37, l39))
  else (
  (if (sEq x2322 (ByteArray.mk #[112, 108, 97, 105, 110])) = true then (
  (idx l2562 0).bind fun x3626 =>
  (idx l2562 1).bind fun x3642 =>
  (idx l2562 2).bind fun x3658 =>
  (idx l2562 3).bind fun x3674 =>
  some (.inl (1, x3626, x3642, x3658, 0, x3674)))
  else (
  if (sEq x2322 (ByteArray.mk #[112, 111, 105, 110, 116, 115])) = true then (
  (idx l2562 0).bind fun x3755 =>
  (idx l2562 1).bind fun x3771 =>
  (idx l2562 2).bind fun x3787 =>
  (idx l2562 3).bind fun x3803 =>
  some (.inl (2, x3755, x3771, x3787, x3803, 0)))
  else (
  if (sEq x2322 (ByteArray.mk #[99, 114, 111, 115, 115])) = true then (
  (idx l2562 0).bind fun x3852 =>
  (idx l2562 1).bind fun x3868 =>
  some (.inl (3, x3852, 0, x3868, 0, 0)))
  else (
  if (sEq x2322 (ByteArray.mk #[108, 105, 110, 107])) = true then (
  ((idx l2562 0).bind fun x4105 =>
  (idx l2562 1).bind fun x4121 =>
  (idx l2562 2).bind fun x4137 =>
  (idx l2562 3).bind fun x4153 =>
  (room 32 (l35.length + 1)).bind fun _ =>
  some (l35 ++ [(⟨x4105, x4121, x4137, x4153⟩ : ApiLink)])).bind (fun l4032 =>
  some (.inr (2, l31, l33, l4032, l37, l39))))
  else (
  if (sEq x2322 (ByteArray.mk #[115, 105, 103, 110, 97, 108])) = true then (
  ((idx l2562 0).bind fun x4305 =>
  (idx l2562 1).bind fun x4321 =>
  (room 16 (l37.length + 1)).bind fun _ =>
  some (l37 ++ [(⟨x4305, x4321⟩ : ApiSignal)])).bind (fun l4264 =>
  some (.inr (3, l31, l33, l35, l4264, l39))))
  else (
  if (sEq x2322 (ByteArray.mk #[103, 97, 116, 101])) = true then (
  ((idx l2562 0).bind fun x4473 =>
  (idx l2562 1).bind fun x4489 =>
  (room 16 (l39.length + 1)).bind fun _ =>
  some (l39 ++ [(⟨x4473, x4489⟩ : ApiGate)])).bind (fun l4432 =>
  some (.inr (4, l31, l33, l35, l37, l4432))))
  else (
  some (.inl (0, 0, 0, 0, 0, 0))))))))).bind fun t => Sum.elim (unc6 fun x3553 x3554 x3555 x3556 x3557 x3558 =>
  ((room 56 (l33.length + 1)).bind fun _ =>
  some (l33 ++ [(⟨x3553, x3554, x3555, x3556, x3557, x3558, x2509⟩ : ApiSection)])).bind (fun l4536 =>
  some (1, l31, l4536, l35, l37, l39))) (fun r4555 => some r4555) t)))) (fun r4556 => some r4556) t))

noncomputable def mLineName_L75 (x1 : ByteArray) (k96 : Nat) : (Unit) → Option ((Unit) ⊕ (Bool)) := fun _ =>
  (idx (sBytes x1) (k96 : Int)).bind fun x100 =>
  (if x100 < 97 then (
  some true)
  else (
  some (decide (122 < x100)))).bind (fun x113 =>
  if x113 = true then (
  some (.inr false))
  else (
  some (.inl ())))

/-- fishplate/line.name -/
noncomputable def mLineName (x1 : ByteArray) : Option (Bool) :=
  (chk (x1.size : Int)).bind fun _ =>
  (forM (mLineName_L75 x1) ((sBytes x1).length) 0 ()).bind fun t => Sum.elim (fun _ =>
  (if 1 ≤ (x1.size : Int) then (
  some (decide ((x1.size : Int) ≤ 12)))
  else (
  some false)).bind (fun x122 =>
  some x122)) (fun q => some q) t

noncomputable def mSlicesIndex_L39 (l4 : (List ByteArray)) (x5 : ByteArray) (k54 : Nat) : (Unit) → Option ((Unit) ⊕ (Int)) := fun _ =>
  (idx l4 (k54 : Int)).bind fun x58 =>
  if (sEq x5 x58) = true then (
  some (.inr (k54 : Int)))
  else (
  some (.inl ()))

/-- slices.Index[[]string,string] -/
noncomputable def mSlicesIndex (l4 : (List ByteArray)) (x5 : ByteArray) : Option (Int) :=
  (forM (mSlicesIndex_L39 l4 x5) l4.length 0 ()).bind fun t => Sum.elim (fun _ =>
  some (-1)) (fun q => some q) t

/-- slices.Contains[[]string,string] -/
noncomputable def mSlicesContains (l4 : (List ByteArray)) (x5 : ByteArray) : Option (Bool) :=
  (mSlicesIndex l4 x5).bind fun x9 =>
  some (decide (0 ≤ x9))

/-- fishplate/line.ends -/
noncomputable def mLineEnds (x1 : Int) : Option (Int) :=
  if x1 = 1 then (
  some 2)
  else (
  if x1 = 2 then (
  some 3)
  else (
  if x1 = 3 then (
  some 4)
  else (
  some 0)))

/-- fishplate/line.within -/
noncomputable def mLineWithin (x1 : Int) (x2 : Int) (x3 : Int) : Option (Bool) :=
  (if x2 ≤ x1 then (
  some (decide (x1 ≤ x3)))
  else (
  some false)).bind (fun x14 =>
  some x14)

/-- fishplate/line.checkSection -/
noncomputable def mLineCheckSection (s1 : ApiSection) (x2 : Int) : Option (Int) :=
  (mLineEnds s1.Kind).bind fun x80 =>
  if x80 = 0 then (
  some 1)
  else (
  ((mLineWithin s1.Length 10 3000).bind fun x95 =>
  if x95 = true then (
  (mLineWithin s1.Grade (-40) 40).bind fun x98 =>
  if x98 = true then (
  (mLineWithin s1.Speed 300 6000).bind fun x101 =>
  some (!x101))
  else (
  some true))
  else (
  some true)).bind (fun x93 =>
  if x93 = true then (
  some 2)
  else (
  (if s1.Kind = 2 then (
  (mLineWithin s1.Slow 300 s1.Speed).bind fun x119 =>
  if x119 = true then (
  if s1.Kind = 1 then (
  (mLineWithin s1.Station 0 x2).bind fun x123 =>
  some (!x123))
  else (
  some false))
  else (
  some true))
  else (
  if s1.Kind = 1 then (
  (mLineWithin s1.Station 0 x2).bind fun x126 =>
  some (!x126))
  else (
  some false))).bind (fun x116 =>
  if x116 = true then (
  some 2)
  else (
  (if s1.Slow ≠ 0 then (
  if s1.Kind = 2 then (
  if s1.Station ≠ 0 then (
  if s1.Kind = 1 then (
  if s1.Grade ≠ 0 then (
  some (decide (s1.Kind = 3)))
  else (
  some false))
  else (
  some true))
  else (
  if s1.Grade ≠ 0 then (
  some (decide (s1.Kind = 3)))
  else (
  some false)))
  else (
  some true))
  else (
  if s1.Station ≠ 0 then (
  if s1.Kind = 1 then (
  if s1.Grade ≠ 0 then (
  some (decide (s1.Kind = 3)))
  else (
  some false))
  else (
  some true))
  else (
  if s1.Grade ≠ 0 then (
  some (decide (s1.Kind = 3)))
  else (
  some false)))).bind (fun x141 =>
  if x141 = true then (
  some 1)
  else (
  some 0)))))))

/-- fishplate/line.has -/
noncomputable def mLineHas (s1 : ApiNet) (s17 : LineEnd) : Option (Bool) :=
  ((chk ((s1.Sections.length : Int) - 1)).bind fun _ =>
  (mLineWithin s17.section_ 0 ((s1.Sections.length : Int) - 1)).bind fun x165 =>
  if x165 = true then (
  (idx s1.Sections s17.section_).bind fun x168 =>
  (mLineEnds x168.Kind).bind fun x178 =>
  (chk (x178 - 1)).bind fun _ =>
  (mLineWithin s17.end_ 0 (x178 - 1)).bind fun x181 =>
  some x181)
  else (
  some false)).bind (fun x143 =>
  some x143)

/-- cmp.isNaN[int] -/
noncomputable def mCmpIsNaN (x1 : Int) : Option (Bool) :=
  some (decide (x1 ≠ x1))

/-- cmp.Compare[int] -/
noncomputable def mCmpCompare (x1 : Int) (x2 : Int) : Option (Int) :=
  (mCmpIsNaN x1).bind fun x13 =>
  (mCmpIsNaN x2).bind fun x15 =>
  if x13 = true then (
  if x15 = true then (
  some 0)
  else (
  some (-1)))
  else (
  if x15 = true then (
  some 1)
  else (
  if x1 < x2 then (
  some (-1))
  else (
  if x2 < x1 then (
  some 1)
  else (
  some 0))))

noncomputable def mCmpOr_L38 (l4 : (List Int)) (k53 : Nat) : (Unit) → Option ((Unit) ⊕ (Int)) := fun _ =>
  (idx l4 (k53 : Int)).bind fun x57 =>
  if x57 ≠ 0 then (
  some (.inr x57))
  else (
  some (.inl ()))

/-- cmp.Or[int] -/
noncomputable def mCmpOr (l4 : (List Int)) : Option (Int) :=
  (forM (mCmpOr_L38 l4) l4.length 0 ()).bind fun t => Sum.elim (fun _ =>
  some 0) (fun q => some q) t

noncomputable def mLineCheckLinks_L643 (s1 : ApiNet) (k1051 : Nat) : ((List (LineEnd × Bool))) → Option (((List (LineEnd × Bool))) ⊕ (Int)) := fun l1050 =>
  (idx s1.Links (k1051 : Int)).bind fun x1055 =>
  (some ()).bind (fun _ =>
  ((mLineHas s1 (⟨x1055.A, x1055.EndA⟩ : LineEnd)).bind fun x1088 =>
  if x1088 = true then (
  (mLineHas s1 (⟨x1055.B, x1055.EndB⟩ : LineEnd)).bind fun x1091 =>
  some (!x1091))
  else (
  some true)).bind (fun x1086 =>
  if x1086 = true then (
  some (.inr 3))
  else (
  if x1055.A = x1055.B then (
  some (.inr 1))
  else (
  if x1055.B < x1055.A then (
  some (.inr 5))
  else (
  (if 0 < (k1051 : Int) then (
  (chk ((k1051 : Int) - 1)).bind fun _ =>
  (idx s1.Links ((k1051 : Int) - 1)).bind fun x1159 =>
  ((mCmpCompare x1159.A x1055.A).bind fun x1201 =>
  (mCmpCompare x1159.EndA x1055.EndA).bind fun x1203 =>
  (mCmpOr [x1201, x1203]).bind fun x1208 =>
  some (decide (0 ≤ x1208))).bind (fun x1190 =>
  if x1190 = true then (
  some (.inr (.inr 5)))
  else (
  some (.inl ()))))
  else (
  some (.inl ()))).bind fun t => Sum.elim (fun _ =>
  ((some (mgetD l1050 (⟨x1055.A, x1055.EndA⟩ : LineEnd) false)).bind fun x1234 =>
  if x1234 = true then (
  some true)
  else (
  (some (mgetD l1050 (⟨x1055.B, x1055.EndB⟩ : LineEnd) false)).bind fun x1241 =>
  some x1241)).bind (fun x1229 =>
  if x1229 = true then (
  some (.inr 6))
  else (
  some (.inl (mput (mput l1050 (⟨x1055.A, x1055.EndA⟩ : LineEnd) true) (⟨x1055.B, x1055.EndB⟩ : LineEnd) true))))) (fun r1258 => some r1258) t)))))

/-- fishplate/line.checkLinks -/
noncomputable def mLineCheckLinks (s1 : ApiNet) : Option (Int) :=
  (forM (mLineCheckLinks_L643 s1) s1.Links.length 0 (([] : (List (LineEnd × Bool))) : (List (LineEnd × Bool)))).bind fun t => Sum.elim (fun _ =>
  some 0) (fun q => some q) t

noncomputable def mLineJoined_L88 (s1 : ApiNet) (s17 : LineEnd) (k117 : Nat) : (Unit) → Option ((Unit) ⊕ (Int × Int × Bool)) := fun _ =>
  (idx s1.Links (k117 : Int)).bind fun x121 =>
  (if x121.A = s17.section_ then (
  some (decide (x121.EndA = s17.end_)))
  else (
  some false)).bind (fun x135 =>
  if x135 = true then (
  some (.inr (x121.B, x121.EndB, true)))
  else (
  (if x121.B = s17.section_ then (
  some (decide (x121.EndB = s17.end_)))
  else (
  some false)).bind (fun x143 =>
  if x143 = true then (
  some (.inr (x121.A, x121.EndA, true)))
  else (
  some (.inl ())))))

/-- fishplate/line.joined -/
noncomputable def mLineJoined (s1 : ApiNet) (s17 : LineEnd) : Option (Int × Int × Bool) :=
  (forM (mLineJoined_L88 s1 s17) s1.Links.length 0 ()).bind fun t => Sum.elim (fun _ =>
  some (0, 0, false)) (fun q => some q) t

noncomputable def mLineCheckSignals_L238 (s1 : ApiNet) (k345 : Nat) : (Unit) → Option ((Unit) ⊕ (Int)) := fun _ =>
  (idx s1.Signals (k345 : Int)).bind fun x349 =>
  (mLineHas s1 (⟨x349.Section, x349.End⟩ : LineEnd)).bind fun x361 =>
  if x361 = true then (
  (mLineJoined s1 (⟨x349.Section, x349.End⟩ : LineEnd)).bind (unc3 fun _ _ x367 =>
  (if x367 = true then (
  (idx s1.Sections x349.Section).bind fun x388 =>
  some (decide (x388.Kind ≠ 1)))
  else (
  some true)).bind (fun x385 =>
  if x385 = true then (
  some (.inr 1))
  else (
  if 0 < (k345 : Int) then (
  (chk ((k345 : Int) - 1)).bind fun _ =>
  (idx s1.Signals ((k345 : Int) - 1)).bind fun x402 =>
  ((mCmpCompare x402.Section x349.Section).bind fun x444 =>
  (mCmpCompare x402.End x349.End).bind fun x446 =>
  (mCmpOr [x444, x446]).bind fun x451 =>
  some (decide (0 ≤ x451))).bind (fun x433 =>
  if x433 = true then (
  some (.inr 5))
  else (
  some (.inl ()))))
  else (
  some (.inl ()))))))
  else (
  some (.inr 3))

/-- fishplate/line.checkSignals -/
noncomputable def mLineCheckSignals (s1 : ApiNet) : Option (Int) :=
  (forM (mLineCheckSignals_L238 s1) s1.Signals.length 0 ()).bind fun t => Sum.elim (fun _ =>
  some 0) (fun q => some q) t

noncomputable def mLineCheckGates_L197 (s1 : ApiNet) (k283 : Nat) : (Unit) → Option ((Unit) ⊕ (Int)) := fun _ =>
  (idx s1.Gates (k283 : Int)).bind fun x287 =>
  (chk ((s1.Sections.length : Int) - 1)).bind fun _ =>
  (mLineWithin x287.Section 0 ((s1.Sections.length : Int) - 1)).bind fun x299 =>
  if x299 = true then (
  (idx s1.Sections x287.Section).bind fun x303 =>
  if x303.Kind ≠ 1 then (
  some (.inr 1))
  else (
  (mLineWithin x287.Close 1 12).bind fun x315 =>
  if x315 = true then (
  (if 0 < (k283 : Int) then (
  (chk ((k283 : Int) - 1)).bind fun _ =>
  (idx s1.Gates ((k283 : Int) - 1)).bind fun x361 =>
  some (decide (x287.Section ≤ x361.Section)))
  else (
  some false)).bind (fun x345 =>
  if x345 = true then (
  some (.inr 5))
  else (
  some (.inl ()))))
  else (
  some (.inr 2))))
  else (
  some (.inr 3))

/-- fishplate/line.checkGates -/
noncomputable def mLineCheckGates (s1 : ApiNet) : Option (Int) :=
  (forM (mLineCheckGates_L197 s1) s1.Gates.length 0 ()).bind fun t => Sum.elim (fun _ =>
  some 0) (fun q => some q) t

noncomputable def mLineCheck_L305 (s1 : ApiNet) (k320 : Nat) : (Unit) → Option ((Unit) ⊕ (Int)) := fun _ =>
  if (k320 : Int) = (0 : Int) then (
  (mLineCheckLinks s1).bind fun x325 =>
  if x325 ≠ 0 then (
  some (.inr x325))
  else (
  some (.inl ())))
  else (
  if (k320 : Int) = (1 : Int) then (
  (mLineCheckSignals s1).bind fun x330 =>
  if x330 ≠ 0 then (
  some (.inr x330))
  else (
  some (.inl ())))
  else (
  if (k320 : Int) = (2 : Int) then (
  (mLineCheckGates s1).bind fun x335 =>
  if x335 ≠ 0 then (
  some (.inr x335))
  else (
  some (.inl ())))
  else (
  none)))

noncomputable def mLineCheck_L267 (s1 : ApiNet) (k285 : Nat) : (Unit) → Option ((Unit) ⊕ (Int)) := fun _ =>
  (idx s1.Sections (k285 : Int)).bind fun x289 =>
  (mLineCheckSection x289 (s1.Stations.length : Int)).bind fun x300 =>
  if x300 ≠ 0 then (
  some (.inr x300))
  else (
  some (.inl ()))

noncomputable def mLineCheck_L194 (s1 : ApiNet) (k229 : Nat) : (Unit) → Option ((Unit) ⊕ (Int)) := fun _ =>
  (idx s1.Stations (k229 : Int)).bind fun x233 =>
  (mLineName x233).bind fun x243 =>
  if x243 = true then (
  (cutS s1.Stations 0 (k229 : Int)).bind fun l247 =>
  (mSlicesContains l247 x233).bind fun x262 =>
  if x262 = true then (
  some (.inr 6))
  else (
  some (.inl ())))
  else (
  some (.inr 1))

/-- fishplate/line.Check -/
noncomputable def mLineCheck (s1 : ApiNet) : Option (Int) :=
  if (s1.Sections.length : Int) = 0 then (
  some 1)
  else (
  (if 12 < (s1.Stations.length : Int) then (
  some true)
  else (
  if 60 < (s1.Sections.length : Int) then (
  some true)
  else (
  if 90 < (s1.Links.length : Int) then (
  some true)
  else (
  if 40 < (s1.Signals.length : Int) then (
  some true)
  else (
  some (decide (8 < (s1.Gates.length : Int)))))))).bind (fun x187 =>
  if x187 = true then (
  some 4)
  else (
  (forM (mLineCheck_L194 s1) s1.Stations.length 0 ()).bind fun t => Sum.elim (fun _ =>
  (forM (mLineCheck_L267 s1) s1.Sections.length 0 ()).bind fun t => Sum.elim (fun _ =>
  (forM (mLineCheck_L305 s1) 3 0 ()).bind fun t => Sum.elim (fun _ =>
  some 0) (fun q => some q) t) (fun q => some q) t) (fun q => some q) t)))

noncomputable def mLineRead_L311 (l301 : (List (List ByteArray))) (k495 : Nat) : (Int × (List ByteArray) × (List ApiSection) × (List ApiLink) × (List ApiSignal) × (List ApiGate)) → Option ((Int × (List ByteArray) × (List ApiSection) × (List ApiLink) × (List ApiSignal) × (List ApiGate)) ⊕ (Int × (List ByteArray) × (List ApiSection) × (List ApiLink) × (List ApiSignal) × (List ApiGate))) := unc6 fun x484 l485 l487 l489 l491 l493 =>
  (idx l301 (k495 : Int)).bind fun x499 =>
  (mLineLine x499 l485 l487 l489 l491 l493).bind (unc6 fun x518 l519 l520 l521 l522 l523 =>
  if x518 < x484 then (
  some (.inr (10, [], [], [], [], [])))
  else (
  some (.inl (x518, l519, l520, l521, l522, l523))))

/-- fishplate/line.Read -/
noncomputable def mLineRead (x1 : ByteArray) : Option (Int × (List ByteArray) × (List ApiSection) × (List ApiLink) × (List ApiSignal) × (List ApiGate)) :=
  if 20000 < (x1.size : Int) then (
  some (4, [], [], [], [], []))
  else (
  (mLineLines x1).bind (unc2 fun x300 l301 =>
  if x300 = true then (
  (forM (mLineRead_L311 l301) l301.length 0 ((0, [], [], [], [], []) : Int × (List ByteArray) × (List ApiSection) × (List ApiLink) × (List ApiSignal) × (List ApiGate))).bind fun t => Sum.elim (unc6 fun _ l485 l487 l489 l491 l493 =>
  (mLineCheck (⟨l485, l487, l489, l491, l493⟩ : ApiNet)).bind fun x555 =>
  if x555 ≠ 0 then (
  some (x555, [], [], [], [], []))
  else (
  some (0, l485, l487, l489, l491, l493))) (fun q => some q) t)
  else (
  some (10, [], [], [], [], []))))

/-- fishplate/fishkeep1.awakeLine -/
noncomputable def mFishkeep1AwakeLine : Option (Bool) :=
  (mLineRead (ByteArray.mk #[120])).bind (unc6 fun x37 _ _ _ _ _ =>
  some (decide (x37 ≠ 0)))

/-- strings.Join -/
noncomputable def mStringsJoin (l4 : (List ByteArray)) (x5 : ByteArray) : Option (ByteArray) :=
  joinM l4 x5

noncomputable def mLineJoin_L176 (l4 : (List Dyn)) (k291 : Nat) : ((List ByteArray)) → Option ((List ByteArray)) := fun l290 =>
  (idx l4 (k291 : Int)).bind fun x294 =>
  if (dynIss x294) = true then (
  (room 16 (l290.length + 1)).bind fun _ =>
  some (l290 ++ [(dynVs x294)]))
  else (
  if (dynIsi x294) = true then (
  (mStrconvItoa (dynVi x294)).bind fun x312 =>
  (room 16 (l290.length + 1)).bind fun _ =>
  some (l290 ++ [x312]))
  else (
  if (dynIsb x294) = true then (
  (some (mgetD (mput (mput ([] : (List (Bool × ByteArray))) true (ByteArray.mk #[97, 120, 108, 101, 115])) false (ByteArray.mk #[99, 105, 114, 99, 117, 105, 116])) (dynVb x294) ByteArray.empty)).bind fun x333 =>
  (room 16 (l290.length + 1)).bind fun _ =>
  some (l290 ++ [x333]))
  else (
  some l290)))

/-- fishplate/line.join -/
noncomputable def mLineJoin (l4 : (List Dyn)) : Option (ByteArray) :=
  (forS (mLineJoin_L176 l4) l4.length 0 ([] : (List ByteArray))).bind (fun l290 =>
  (mStringsJoin l290 (ByteArray.mk #[32])).bind fun x342 =>
  (sAdd x342 (ByteArray.mk #[10])).bind fun q344 =>
  some q344)

/-- (*strings.Builder).WriteString -/
noncomputable def mStringsBuilderWriteString (x5 : ByteArray) (l6 : ByteArray) : Option (Int × ByteArray) :=
  bWrite l6 x5

/-- (*strings.Builder).String -/
noncomputable def mStringsBuilderString (l5 : ByteArray) : Option (ByteArray) :=
  some l5

noncomputable def mLineText_L943 (s1 : ApiNet) (k1001 : Nat) : (ByteArray) → Option (ByteArray) := fun l1000 =>
  (idx s1.Gates (k1001 : Int)).bind fun x1004 =>
  (mLineJoin [(Dyn.s (ByteArray.mk #[103, 97, 116, 101])), (Dyn.i x1004.Section), (Dyn.i x1004.Close)]).bind fun x1018 =>
  (mStringsBuilderWriteString x1018 l1000).bind (unc2 fun _ l1021 =>
  some l1021)

noncomputable def mLineText_L859 (s1 : ApiNet) (k917 : Nat) : (ByteArray) → Option (ByteArray) := fun l916 =>
  (idx s1.Signals (k917 : Int)).bind fun x920 =>
  (mLineJoin [(Dyn.s (ByteArray.mk #[115, 105, 103, 110, 97, 108])), (Dyn.i x920.Section), (Dyn.i x920.End)]).bind fun x934 =>
  (mStringsBuilderWriteString x934 l916).bind (unc2 fun _ l937 =>
  some l937)

noncomputable def mLineText_L775 (s1 : ApiNet) (k833 : Nat) : (ByteArray) → Option (ByteArray) := fun l832 =>
  (idx s1.Links (k833 : Int)).bind fun x836 =>
  (mLineJoin [(Dyn.s (ByteArray.mk #[108, 105, 110, 107])), (Dyn.i x836.A), (Dyn.i x836.EndA), (Dyn.i x836.B), (Dyn.i x836.EndB)]).bind fun x850 =>
  (mStringsBuilderWriteString x850 l832).bind (unc2 fun _ l853 =>
  some l853)

noncomputable def mLineText_L613 (s1 : ApiNet) (k723 : Nat) : (ByteArray) → Option (ByteArray) := fun l722 =>
  (idx s1.Sections (k723 : Int)).bind fun x726 =>
  if x726.Kind = 1 then (
  (mLineJoin [(Dyn.s (ByteArray.mk #[112, 108, 97, 105, 110])), (Dyn.i x726.Length), (Dyn.i x726.Grade), (Dyn.i x726.Speed), (Dyn.i x726.Station), (Dyn.b x726.Axles)]).bind fun x741 =>
  (mStringsBuilderWriteString x741 l722).bind (unc2 fun _ l744 =>
  some l744))
  else (
  if x726.Kind = 2 then (
  (mLineJoin [(Dyn.s (ByteArray.mk #[112, 111, 105, 110, 116, 115])), (Dyn.i x726.Length), (Dyn.i x726.Grade), (Dyn.i x726.Speed), (Dyn.i x726.Slow), (Dyn.b x726.Axles)]).bind fun x754 =>
  (mStringsBuilderWriteString x754 l722).bind (unc2 fun _ l757 =>
  some l757))
  else (
  (mLineJoin [(Dyn.s (ByteArray.mk #[99, 114, 111, 115, 115])), (Dyn.i x726.Length), (Dyn.i x726.Speed), (Dyn.b x726.Axles)]).bind fun x766 =>
  (mStringsBuilderWriteString x766 l722).bind (unc2 fun _ l769 =>
  some l769)))

noncomputable def mLineText_L532 (s1 : ApiNet) (k588 : Nat) : (ByteArray) → Option (ByteArray) := fun l587 =>
  (idx s1.Stations (k588 : Int)).bind fun x591 =>
  (mLineJoin [(Dyn.s (ByteArray.mk #[115, 116, 97, 116, 105, 111, 110])), (Dyn.s x591)]).bind fun x604 =>
  (mStringsBuilderWriteString x604 l587).bind (unc2 fun _ l607 =>
  some l607)

/-- fishplate/line.Text -/
noncomputable def mLineText (s1 : ApiNet) : Option (ByteArray × Int) :=
  (mLineCheck s1).bind fun x526 =>
  if x526 ≠ 0 then (
  some ((ByteArray.mk #[]), x526))
  else (
  (forS (mLineText_L532 s1) s1.Stations.length 0 ByteArray.empty).bind (fun l587 =>
  (forS (mLineText_L613 s1) s1.Sections.length 0 l587).bind (fun l722 =>
  (forS (mLineText_L775 s1) s1.Links.length 0 l722).bind (fun l832 =>
  (forS (mLineText_L859 s1) s1.Signals.length 0 l832).bind (fun l916 =>
  (forS (mLineText_L943 s1) s1.Gates.length 0 l916).bind (fun l1000 =>
  (mStringsBuilderString l1000).bind fun x1027 =>
  some (x1027, 0)))))))

noncomputable def mSlicesEqual_L104 (l4 : (List ByteArray)) (l8 : (List ByteArray)) (k149 : Nat) : (Unit) → Option ((Unit) ⊕ (Bool)) := fun _ =>
  (idx l4 (k149 : Int)).bind fun x173 =>
  (idx l8 (k149 : Int)).bind fun x183 =>
  if (sEq x173 x183) = true then (
  some (.inl ()))
  else (
  some (.inr false))

/-- slices.Equal[[]string,string] -/
noncomputable def mSlicesEqual (l4 : (List ByteArray)) (l8 : (List ByteArray)) : Option (Bool) :=
  if (l4.length : Int) ≠ (l8.length : Int) then (
  some false)
  else (
  (forM (mSlicesEqual_L104 l4 l8) l4.length 0 ()).bind fun t => Sum.elim (fun _ =>
  some true) (fun q => some q) t)

noncomputable def mSlicesEqual_2_L104 (l4 : (List ApiSection)) (l8 : (List ApiSection)) (k149 : Nat) : (Unit) → Option ((Unit) ⊕ (Bool)) := fun _ =>
  (idx l4 (k149 : Int)).bind fun x173 =>
  (idx l8 (k149 : Int)).bind fun x183 =>
  if x173.Kind = x183.Kind ∧ x173.Length = x183.Length ∧ x173.Grade = x183.Grade ∧ x173.Speed = x183.Speed ∧ x173.Slow = x183.Slow ∧ x173.Station = x183.Station ∧ x173.Axles = x183.Axles then (
  some (.inl ()))
  else (
  some (.inr false))

/-- slices.Equal[[]fishplate/api.Section,fishplate/api.Section] -/
noncomputable def mSlicesEqual_2 (l4 : (List ApiSection)) (l8 : (List ApiSection)) : Option (Bool) :=
  if (l4.length : Int) ≠ (l8.length : Int) then (
  some false)
  else (
  (forM (mSlicesEqual_2_L104 l4 l8) l4.length 0 ()).bind fun t => Sum.elim (fun _ =>
  some true) (fun q => some q) t)

noncomputable def mSlicesEqual_3_L104 (l4 : (List ApiLink)) (l8 : (List ApiLink)) (k149 : Nat) : (Unit) → Option ((Unit) ⊕ (Bool)) := fun _ =>
  (idx l4 (k149 : Int)).bind fun x173 =>
  (idx l8 (k149 : Int)).bind fun x183 =>
  if x173.A = x183.A ∧ x173.EndA = x183.EndA ∧ x173.B = x183.B ∧ x173.EndB = x183.EndB then (
  some (.inl ()))
  else (
  some (.inr false))

/-- slices.Equal[[]fishplate/api.Link,fishplate/api.Link] -/
noncomputable def mSlicesEqual_3 (l4 : (List ApiLink)) (l8 : (List ApiLink)) : Option (Bool) :=
  if (l4.length : Int) ≠ (l8.length : Int) then (
  some false)
  else (
  (forM (mSlicesEqual_3_L104 l4 l8) l4.length 0 ()).bind fun t => Sum.elim (fun _ =>
  some true) (fun q => some q) t)

noncomputable def mSlicesEqual_4_L104 (l4 : (List ApiSignal)) (l8 : (List ApiSignal)) (k149 : Nat) : (Unit) → Option ((Unit) ⊕ (Bool)) := fun _ =>
  (idx l4 (k149 : Int)).bind fun x173 =>
  (idx l8 (k149 : Int)).bind fun x183 =>
  if x173.Section = x183.Section ∧ x173.End = x183.End then (
  some (.inl ()))
  else (
  some (.inr false))

/-- slices.Equal[[]fishplate/api.Signal,fishplate/api.Signal] -/
noncomputable def mSlicesEqual_4 (l4 : (List ApiSignal)) (l8 : (List ApiSignal)) : Option (Bool) :=
  if (l4.length : Int) ≠ (l8.length : Int) then (
  some false)
  else (
  (forM (mSlicesEqual_4_L104 l4 l8) l4.length 0 ()).bind fun t => Sum.elim (fun _ =>
  some true) (fun q => some q) t)

noncomputable def mSlicesEqual_5_L104 (l4 : (List ApiGate)) (l8 : (List ApiGate)) (k149 : Nat) : (Unit) → Option ((Unit) ⊕ (Bool)) := fun _ =>
  (idx l4 (k149 : Int)).bind fun x173 =>
  (idx l8 (k149 : Int)).bind fun x183 =>
  if x173.Section = x183.Section ∧ x173.Close = x183.Close then (
  some (.inl ()))
  else (
  some (.inr false))

/-- slices.Equal[[]fishplate/api.Gate,fishplate/api.Gate] -/
noncomputable def mSlicesEqual_5 (l4 : (List ApiGate)) (l8 : (List ApiGate)) : Option (Bool) :=
  if (l4.length : Int) ≠ (l8.length : Int) then (
  some false)
  else (
  (forM (mSlicesEqual_5_L104 l4 l8) l4.length 0 ()).bind fun t => Sum.elim (fun _ =>
  some true) (fun q => some q) t)

/-- fishplate/fishkeep1.LineTold -/
noncomputable def mFishkeep1LineTold (s1 : ApiNet) : Option (Bool) :=
  (mFishkeep1AwakeLine).bind fun x115 =>
  if x115 = true then (
  (mLineText s1).bind (unc2 fun x118 x119 =>
  if x119 ≠ 0 then (
  ((mLineCheck s1).bind fun x129 =>
  if x129 = x119 then (
  some (sEq x118 (ByteArray.mk #[])))
  else (
  some false)).bind (fun x127 =>
  some x127))
  else (
  (mLineRead x118).bind (unc6 fun x132 l133 l134 l135 l136 l137 =>
  (mLineText (⟨l133, l134, l135, l136, l137⟩ : ApiNet)).bind (unc2 fun x167 x168 =>
  (if (x118.size : Int) ≤ 20000 then (
  if x132 = 0 then (
  if x168 = 0 then (
  if (sEq x167 x118) = true then (
  (mSlicesEqual l133 s1.Stations).bind fun x196 =>
  if x196 = true then (
  (mSlicesEqual_2 l134 s1.Sections).bind fun x199 =>
  if x199 = true then (
  (mSlicesEqual_3 l135 s1.Links).bind fun x202 =>
  if x202 = true then (
  (mSlicesEqual_4 l136 s1.Signals).bind fun x205 =>
  if x205 = true then (
  (mSlicesEqual_5 l137 s1.Gates).bind fun x208 =>
  some x208)
  else (
  some false))
  else (
  some false))
  else (
  some false))
  else (
  some false))
  else (
  some false))
  else (
  some false))
  else (
  some false))
  else (
  some false)).bind (fun x190 =>
  some x190))))))
  else (
  some false)

end Go.Proofs.YtaagdbecijhkmaaDoor
