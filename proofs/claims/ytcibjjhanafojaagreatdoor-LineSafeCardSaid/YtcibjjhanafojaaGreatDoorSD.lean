/- The models of the functions, as the extractor printed them. -/
import Derived.Test.YtcibjjhanafojaaGreatDoorXG
import Derived.Test.YtcibjjhanafojaaGreatDoorXH
set_option linter.unusedVariables false
set_option linter.unusedSimpArgs false
namespace Go.Proofs.YtcibjjhanafojaaGreatDoor
open Go.RowKit Go.Fp

structure ApiSection where
  Kind : Int
  Length : Int
  Grade : Int
  Speed : Int
  Slow : Int
  Station : Int
  Axles : Bool
  deriving DecidableEq
def rApiSection : RT ApiSection := (RT.cat (RT.on (RT.int .i64) ApiSection.Kind) (RT.cat (RT.on (RT.int .i64) ApiSection.Length) (RT.cat (RT.on (RT.int .i64) ApiSection.Grade) (RT.cat (RT.on (RT.int .i64) ApiSection.Speed) (RT.cat (RT.on (RT.int .i64) ApiSection.Slow) (RT.cat (RT.on (RT.int .i64) ApiSection.Station) (RT.on RT.bool ApiSection.Axles)))))))
structure ApiLink where
  A : Int
  EndA : Int
  B : Int
  EndB : Int
  deriving DecidableEq
def rApiLink : RT ApiLink := (RT.cat (RT.on (RT.int .i64) ApiLink.A) (RT.cat (RT.on (RT.int .i64) ApiLink.EndA) (RT.cat (RT.on (RT.int .i64) ApiLink.B) (RT.on (RT.int .i64) ApiLink.EndB))))
structure ApiSignal where
  Section : Int
  End : Int
  deriving DecidableEq
def rApiSignal : RT ApiSignal := (RT.cat (RT.on (RT.int .i64) ApiSignal.Section) (RT.on (RT.int .i64) ApiSignal.End))
structure ApiGate where
  Section : Int
  Close : Int
  deriving DecidableEq
def rApiGate : RT ApiGate := (RT.cat (RT.on (RT.int .i64) ApiGate.Section) (RT.on (RT.int .i64) ApiGate.Close))
structure ApiNet where
  Stations : (List ByteArray)
  Sections : (List ApiSection)
  Links : (List ApiLink)
  Signals : (List ApiSignal)
  Gates : (List ApiGate)
def rApiNet : RT ApiNet := (RT.cat (RT.on (RT.list RT.str) ApiNet.Stations) (RT.cat (RT.on (RT.list rApiSection) ApiNet.Sections) (RT.cat (RT.on (RT.list rApiLink) ApiNet.Links) (RT.cat (RT.on (RT.list rApiSignal) ApiNet.Signals) (RT.on (RT.list rApiGate) ApiNet.Gates)))))
structure LineEnd where
  section_ : Int
  end_ : Int
  deriving DecidableEq
def rLineEnd : RT LineEnd := (RT.cat (RT.on (RT.int .i64) LineEnd.section_) (RT.on (RT.int .i64) LineEnd.end_))
structure ApiStep where
  Section : Int
  In : Int
  Out : Int
  deriving DecidableEq
def rApiStep : RT ApiStep := (RT.cat (RT.on (RT.int .i64) ApiStep.Section) (RT.cat (RT.on (RT.int .i64) ApiStep.In) (RT.on (RT.int .i64) ApiStep.Out)))
structure ApiRoute where
  From : Int
  To : Int
  Steps : (List ApiStep)
def rApiRoute : RT ApiRoute := (RT.cat (RT.on (RT.int .i64) ApiRoute.From) (RT.cat (RT.on (RT.int .i64) ApiRoute.To) (RT.on (RT.list rApiStep) ApiRoute.Steps)))
structure ApiNeed where
  Kind : Int
  Place : Int
  Position : Int
  At : Int
  deriving DecidableEq
def rApiNeed : RT ApiNeed := (RT.cat (RT.on (RT.int .i64) ApiNeed.Kind) (RT.cat (RT.on (RT.int .i64) ApiNeed.Place) (RT.cat (RT.on (RT.int .i64) ApiNeed.Position) (RT.on (RT.int .i64) ApiNeed.At))))
structure ApiRow where
  Needs : (List ApiNeed)
  Clashes : (List Int)
def rApiRow : RT ApiRow := (RT.cat (RT.on (RT.list rApiNeed) ApiRow.Needs) (RT.on (RT.list (RT.int .i64)) ApiRow.Clashes))

/-- internal/stringslite.HasSuffix -/
noncomputable def mStringsliteHasSuffix (x1 : ByteArray) (x2 : ByteArray) : Option (Bool) :=
  (if (x2.size : Int) ≤ (x1.size : Int) then (
  (chk ((x1.size : Int) - (x2.size : Int))).bind fun _ =>
  (sCut x1 ((x1.size : Int) - (x2.size : Int)) (x1.size : Int)).bind fun q26 =>
  some (sEq q26 x2))
  else (
  some false)).bind (fun x22 =>
  some x22)

/-- internal/stringslite.CutSuffix -/
noncomputable def mStringsliteCutSuffix (x1 : ByteArray) (x2 : ByteArray) : Option (ByteArray × Bool) :=
  (mStringsliteHasSuffix x1 x2).bind fun x11 =>
  if x11 = true then (
  (chk ((x1.size : Int) - (x2.size : Int))).bind fun _ =>
  (sCut x1 0 ((x1.size : Int) - (x2.size : Int))).bind fun q15 =>
  some (q15, true))
  else (
  some (x1, false))

/-- strings.CutSuffix -/
noncomputable def mStringsCutSuffix (x1 : ByteArray) (x2 : ByteArray) : Option (ByteArray × Bool) :=
  (mStringsliteCutSuffix x1 x2).bind (unc2 fun x8 x9 =>
  some (x8, x9))

/-- internal/stringslite.IndexByte -/
noncomputable def mStringsliteIndexByte (x1 : ByteArray) (x2 : Int) : Option (Int) :=
  some (sFirst x1 x2)

/-- internal/stringslite.Index -/
noncomputable def mStringsliteIndex (x1 : ByteArray) (x2 : ByteArray) : Option (Int) :=
  (if (x2.size : Int) = 0 then (
  some true)
  else (
  some (sEq x2 x1))).bind (fun x20 =>
  if x20 = true then (
  some 0)
  else (
  if (x2.size : Int) = 1 then (
  (sIdx x2 0).bind fun x25 =>
  (mStringsliteIndexByte x1 x25).bind fun x27 =>
  some x27)
  else (
  if (x1.size : Int) ≤ (x2.size : Int) then (
  some (-1))
  else (
  none))))

/-- strings.Index -/
noncomputable def mStringsIndex (x1 : ByteArray) (x2 : ByteArray) : Option (Int) :=
  (mStringsliteIndex x1 x2).bind fun x6 =>
  some x6

noncomputable def mStringsCount_L40 (x2 : ByteArray) : (ByteArray × Int) → Option ((ByteArray × Int) ⊕ (Int)) := unc2 fun x59 x60 =>
  (mStringsIndex x59 x2).bind fun x61 =>
  if x61 = (-1) then (
  some (.inr x60))
  else (
  (chk (x60 + 1)).bind fun _ =>
  (chk (x61 + (x2.size : Int))).bind fun _ =>
  (sCut x59 (x61 + (x2.size : Int)) (x59.size : Int)).bind fun q66 =>
  some (.inl (q66, x60 + 1)))

/-- strings.Count -/
noncomputable def mStringsCount (x1 : ByteArray) (x2 : ByteArray) : Option (Int) :=
  if (x2.size : Int) = 0 then (
  none)
  else (
  if (x2.size : Int) = 1 then (
  (sIdx x2 0).bind fun x38 =>
  some (sCount x1 x38))
  else (
  loopM (mStringsCount_L40 x2) (x1, 0)))

noncomputable def mStringsGenSplit_L419 (x1 : ByteArray) (x2 : ByteArray) (x3 : Int) (x291 : Int) : (ByteArray × Int × (List ByteArray)) → Option ((ByteArray × Int × (List ByteArray)) ⊕ (ByteArray × Int × (List ByteArray))) := unc3 fun x490 x491 l492 =>
  if x491 < ((min x291 ((x1.size : Int) + 1)) - 1) then (
  (mStringsIndex x490 x2).bind fun x495 =>
  if x495 < 0 then (
  some (.inr (x490, x491, l492)))
  else (
  (chk (x495 + x3)).bind fun _ =>
  (sCut x490 0 (x495 + x3)).bind fun q499 =>
  (idx l492 x491).bind fun _ =>
  (chk (x495 + (x2.size : Int))).bind fun _ =>
  (sCut x490 (x495 + (x2.size : Int)) (x490.size : Int)).bind fun q520 =>
  (chk (x491 + 1)).bind fun _ =>
  some (.inl (q520, x491 + 1, put l492 x491 q499))))
  else (
  some (.inr (x490, x491, l492)))

/-- strings.genSplit -/
noncomputable def mStringsGenSplit (x1 : ByteArray) (x2 : ByteArray) (x3 : Int) (x4 : Int) : Option ((List ByteArray)) :=
  if x4 = 0 then (
  some [])
  else (
  if (sEq x2 (ByteArray.mk #[])) = true then (
  none)
  else (
  (if x4 < 0 then (
  (mStringsCount x1 x2).bind fun x294 =>
  (chk (x294 + 1)).bind fun _ =>
  some (x294 + 1))
  else (
  some x4)).bind (fun x291 =>
  (chk ((x1.size : Int) + 1)).bind fun _ =>
  (mkLen 16 (min x291 ((x1.size : Int) + 1))).bind fun m298 =>
  (chk ((min x291 ((x1.size : Int) + 1)) - 1)).bind fun _ =>
  (loopM (mStringsGenSplit_L419 x1 x2 x3 x291) (x1, 0, List.replicate m298 (ByteArray.empty : ByteArray))).bind (unc3 fun x414 x415 l416 =>
  (idx l416 x415).bind fun _ =>
  (chk (x415 + 1)).bind fun _ =>
  (cutS (put l416 x415 x414) 0 (x415 + 1)).bind fun l542 =>
  some l542))))

/-- strings.Split -/
noncomputable def mStringsSplit (x1 : ByteArray) (x2 : ByteArray) : Option ((List ByteArray)) :=
  (mStringsGenSplit x1 x2 0 (-1)).bind fun l17 =>
  some l17

noncomputable def mLineLines_L155 (l147 : (List ByteArray)) (k240 : Nat) : ((List (List ByteArray))) → Option ((List (List ByteArray))) := fun l239 =>
  (idx l147 (k240 : Int)).bind fun x243 =>
  (mStringsSplit x243 (ByteArray.mk #[32])).bind fun l259 =>
  (room 24 (l239.length + 1)).bind fun _ =>
  some (l239 ++ [l259])

/-- fishplate/line.Lines -/
noncomputable def mLineLines (x1 : ByteArray) : Option (Bool × (List (List ByteArray))) :=
  if (sEq x1 (ByteArray.mk #[])) = true then (
  some (true, []))
  else (
  (mStringsCutSuffix x1 (ByteArray.mk #[10])).bind (unc2 fun x144 x145 =>
  (mStringsSplit x144 (ByteArray.mk #[10])).bind fun l147 =>
  (forS (mLineLines_L155 l147) l147.length 0 ([] : (List (List ByteArray)))).bind (fun l239 =>
  some (x145, l239))))

noncomputable def mLineName_L75 (x1 : ByteArray) (k96 : Nat) : (Unit) → Option ((Unit) ⊕ (Bool)) := fun _ =>
  (idx (sBytes x1) (k96 : Int)).bind fun x100 =>
  (if x100 < 97 then (
  some true)
  else (
  some (decide (122 < x100)))).bind (fun x113 =>
  if x113 = true then (
  some (.inr false))
  else (
  some (.inl ())))

/-- fishplate/line.name -/
noncomputable def mLineName (x1 : ByteArray) : Option (Bool) :=
  (chk (x1.size : Int)).bind fun _ =>
  (forM (mLineName_L75 x1) ((sBytes x1).length) 0 ()).bind fun t => Sum.elim (fun _ =>
  (if 1 ≤ (x1.size : Int) then (
  some (decide ((x1.size : Int) ≤ 12)))
  else (
  some false)).bind (fun x122 =>
  some x122)) (fun q => some q) t

noncomputable def mSlicesIndex_L39 (l4 : (List ByteArray)) (x5 : ByteArray) (k54 : Nat) : (Unit) → Option ((Unit) ⊕ (Int)) := fun _ =>
  (idx l4 (k54 : Int)).bind fun x58 =>
  if (sEq x5 x58) = true then (
  some (.inr (k54 : Int)))
  else (
  some (.inl ()))

/-- slices.Index[[]string,string] -/
noncomputable def mSlicesIndex (l4 : (List ByteArray)) (x5 : ByteArray) : Option (Int) :=
  (forM (mSlicesIndex_L39 l4 x5) l4.length 0 ()).bind fun t => Sum.elim (fun _ =>
  some (-1)) (fun q => some q) t

/-- slices.Contains[[]string,string] -/
noncomputable def mSlicesContains (l4 : (List ByteArray)) (x5 : ByteArray) : Option (Bool) :=
  (mSlicesIndex l4 x5).bind fun x9 =>
  some (decide (0 ≤ x9))

/-- fishplate/line.ends -/
noncomputable def mLineEnds (x1 : Int) : Option (Int) :=
  if x1 = 1 then (
  some 2)
  else (
  if x1 = 2 then (
  some 3)
  else (
  if x1 = 3 then (
  some 4)
  else (
  some 0)))

/-- fishplate/line.within -/
noncomputable def mLineWithin (x1 : Int) (x2 : Int) (x3 : Int) : Option (Bool) :=
  (if x2 ≤ x1 then (
  some (decide (x1 ≤ x3)))
  else (
  some false)).bind (fun x14 =>
  some x14)

/-- fishplate/line.checkSection -/
noncomputable def mLineCheckSection (s1 : ApiSection) (x2 : Int) : Option (Int) :=
  (mLineEnds s1.Kind).bind fun x80 =>
  if x80 = 0 then (
  some 1)
  else (
  ((mLineWithin s1.Length 10 3000).bind fun x95 =>
  if x95 = true then (
  (mLineWithin s1.Grade (-40) 40).bind fun x98 =>
  if x98 = true then (
  (mLineWithin s1.Speed 300 6000).bind fun x101 =>
  some (!x101))
  else (
  some true))
  else (
  some true)).bind (fun x93 =>
  if x93 = true then (
  some 2)
  else (
  (if s1.Kind = 2 then (
  (mLineWithin s1.Slow 300 s1.Speed).bind fun x119 =>
  if x119 = true then (
  if s1.Kind = 1 then (
  (mLineWithin s1.Station 0 x2).bind fun x123 =>
  some (!x123))
  else (
  some false))
  else (
  some true))
  else (
  if s1.Kind = 1 then (
  (mLineWithin s1.Station 0 x2).bind fun x126 =>
  some (!x126))
  else (
  some false))).bind (fun x116 =>
  if x116 = true then (
  some 2)
  else (
  (if s1.Slow ≠ 0 then (
  if s1.Kind = 2 then (
  if s1.Station ≠ 0 then (
  if s1.Kind = 1 then (
  if s1.Grade ≠ 0 then (
  some (decide (s1.Kind = 3)))
  else (
  some false))
  else (
  some true))
  else (
  if s1.Grade ≠ 0 then (
  some (decide (s1.Kind = 3)))
  else (
  some false)))
  else (
  some true))
  else (
  if s1.Station ≠ 0 then (
  if s1.Kind = 1 then (
  if s1.Grade ≠ 0 then (
  some (decide (s1.Kind = 3)))
  else (
  some false))
  else (
  some true))
  else (
  if s1.Grade ≠ 0 then (
  some (decide (s1.Kind = 3)))
  else (
  some false)))).bind (fun x141 =>
  if x141 = true then (
  some 1)
  else (
  some 0)))))))

/-- fishplate/line.has -/
noncomputable def mLineHas (s1 : ApiNet) (s17 : LineEnd) : Option (Bool) :=
  ((chk ((s1.Sections.length : Int) - 1)).bind fun _ =>
  (mLineWithin s17.section_ 0 ((s1.Sections.length : Int) - 1)).bind fun x165 =>
  if x165 = true then (
  (idx s1.Sections s17.section_).bind fun x168 =>
  (mLineEnds x168.Kind).bind fun x178 =>
  (chk (x178 - 1)).bind fun _ =>
  (mLineWithin s17.end_ 0 (x178 - 1)).bind fun x181 =>
  some x181)
  else (
  some false)).bind (fun x143 =>
  some x143)

/-- cmp.isNaN[int] -/
noncomputable def mCmpIsNaN (x1 : Int) : Option (Bool) :=
  some (decide (x1 ≠ x1))

/-- cmp.Compare[int] -/
noncomputable def mCmpCompare (x1 : Int) (x2 : Int) : Option (Int) :=
  (mCmpIsNaN x1).bind fun x13 =>
  (mCmpIsNaN x2).bind fun x15 =>
  if x13 = true then (
  if x15 = true then (
  some 0)
  else (
  some (-1)))
  else (
  if x15 = true then (
  some 1)
  else (
  if x1 < x2 then (
  some (-1))
  else (
  if x2 < x1 then (
  some 1)
  else (
  some 0))))

noncomputable def mCmpOr_L38 (l4 : (List Int)) (k53 : Nat) : (Unit) → Option ((Unit) ⊕ (Int)) := fun _ =>
  (idx l4 (k53 : Int)).bind fun x57 =>
  if x57 ≠ 0 then (
  some (.inr x57))
  else (
  some (.inl ()))

/-- cmp.Or[int] -/
noncomputable def mCmpOr (l4 : (List Int)) : Option (Int) :=
  (forM (mCmpOr_L38 l4) l4.length 0 ()).bind fun t => Sum.elim (fun _ =>
  some 0) (fun q => some q) t

noncomputable def mLineCheckLinks_L643 (s1 : ApiNet) (k1051 : Nat) : ((List (LineEnd × Bool))) → Option (((List (LineEnd × Bool))) ⊕ (Int)) := fun l1050 =>
  (idx s1.Links (k1051 : Int)).bind fun x1055 =>
  (some ()).bind (fun _ =>
  ((mLineHas s1 (⟨x1055.A, x1055.EndA⟩ : LineEnd)).bind fun x1088 =>
  if x1088 = true then (
  (mLineHas s1 (⟨x1055.B, x1055.EndB⟩ : LineEnd)).bind fun x1091 =>
  some (!x1091))
  else (
  some true)).bind (fun x1086 =>
  if x1086 = true then (
  some (.inr 3))
  else (
  if x1055.A = x1055.B then (
  some (.inr 1))
  else (
  if x1055.B < x1055.A then (
  some (.inr 5))
  else (
  (if 0 < (k1051 : Int) then (
  (chk ((k1051 : Int) - 1)).bind fun _ =>
  (idx s1.Links ((k1051 : Int) - 1)).bind fun x1159 =>
  ((mCmpCompare x1159.A x1055.A).bind fun x1201 =>
  (mCmpCompare x1159.EndA x1055.EndA).bind fun x1203 =>
  (mCmpOr [x1201, x1203]).bind fun x1208 =>
  some (decide (0 ≤ x1208))).bind (fun x1190 =>
  if x1190 = true then (
  some (.inr (.inr 5)))
  else (
  some (.inl ()))))
  else (
  some (.inl ()))).bind fun t => Sum.elim (fun _ =>
  ((some (mgetD l1050 (⟨x1055.A, x1055.EndA⟩ : LineEnd) false)).bind fun x1234 =>
  if x1234 = true then (
  some true)
  else (
  (some (mgetD l1050 (⟨x1055.B, x1055.EndB⟩ : LineEnd) false)).bind fun x1241 =>
  some x1241)).bind (fun x1229 =>
  if x1229 = true then (
  some (.inr 6))
  else (
  some (.inl (mput (mput l1050 (⟨x1055.A, x1055.EndA⟩ : LineEnd) true) (⟨x1055.B, x1055.EndB⟩ : LineEnd) true))))) (fun r1258 => some r1258) t)))))

/-- fishplate/line.checkLinks -/
noncomputable def mLineCheckLinks (s1 : ApiNet) : Option (Int) :=
  (forM (mLineCheckLinks_L643 s1) s1.Links.length 0 (([] : (List (LineEnd × Bool))) : (List (LineEnd × Bool)))).bind fun t => Sum.elim (fun _ =>
  some 0) (fun q => some q) t

noncomputable def mLineJoined_L88 (s1 : ApiNet) (s17 : LineEnd) (k117 : Nat) : (Unit) → Option ((Unit) ⊕ (Int × Int × Bool)) := fun _ =>
  (idx s1.Links (k117 : Int)).bind fun x121 =>
  (if x121.A = s17.section_ then (
  some (decide (x121.EndA = s17.end_)))
  else (
  some false)).bind (fun x135 =>
  if x135 = true then (
  some (.inr (x121.B, x121.EndB, true)))
  else (
  (if x121.B = s17.section_ then (
  some (decide (x121.EndB = s17.end_)))
  else (
  some false)).bind (fun x143 =>
  if x143 = true then (
  some (.inr (x121.A, x121.EndA, true)))
  else (
  some (.inl ())))))

/-- fishplate/line.joined -/
noncomputable def mLineJoined (s1 : ApiNet) (s17 : LineEnd) : Option (Int × Int × Bool) :=
  (forM (mLineJoined_L88 s1 s17) s1.Links.length 0 ()).bind fun t => Sum.elim (fun _ =>
  some (0, 0, false)) (fun q => some q) t

noncomputable def mLineCheckSignals_L238 (s1 : ApiNet) (k345 : Nat) : (Unit) → Option ((Unit) ⊕ (Int)) := fun _ =>
  (idx s1.Signals (k345 : Int)).bind fun x349 =>
  (mLineHas s1 (⟨x349.Section, x349.End⟩ : LineEnd)).bind fun x361 =>
  if x361 = true then (
  (mLineJoined s1 (⟨x349.Section, x349.End⟩ : LineEnd)).bind (unc3 fun _ _ x367 =>
  (if x367 = true then (
  (idx s1.Sections x349.Section).bind fun x388 =>
  some (decide (x388.Kind ≠ 1)))
  else (
  some true)).bind (fun x385 =>
  if x385 = true then (
  some (.inr 1))
  else (
  if 0 < (k345 : Int) then (
  (chk ((k345 : Int) - 1)).bind fun _ =>
  (idx s1.Signals ((k345 : Int) - 1)).bind fun x402 =>
  ((mCmpCompare x402.Section x349.Section).bind fun x444 =>
  (mCmpCompare x402.End x349.End).bind fun x446 =>
  (mCmpOr [x444, x446]).bind fun x451 =>
  some (decide (0 ≤ x451))).bind (fun x433 =>
  if x433 = true then (
  some (.inr 5))
  else (
  some (.inl ()))))
  else (
  some (.inl ()))))))
  else (
  some (.inr 3))

/-- fishplate/line.checkSignals -/
noncomputable def mLineCheckSignals (s1 : ApiNet) : Option (Int) :=
  (forM (mLineCheckSignals_L238 s1) s1.Signals.length 0 ()).bind fun t => Sum.elim (fun _ =>
  some 0) (fun q => some q) t

noncomputable def mLineCheckGates_L197 (s1 : ApiNet) (k283 : Nat) : (Unit) → Option ((Unit) ⊕ (Int)) := fun _ =>
  (idx s1.Gates (k283 : Int)).bind fun x287 =>
  (chk ((s1.Sections.length : Int) - 1)).bind fun _ =>
  (mLineWithin x287.Section 0 ((s1.Sections.length : Int) - 1)).bind fun x299 =>
  if x299 = true then (
  (idx s1.Sections x287.Section).bind fun x303 =>
  if x303.Kind ≠ 1 then (
  some (.inr 1))
  else (
  (mLineWithin x287.Close 1 12).bind fun x315 =>
  if x315 = true then (
  (if 0 < (k283 : Int) then (
  (chk ((k283 : Int) - 1)).bind fun _ =>
  (idx s1.Gates ((k283 : Int) - 1)).bind fun x361 =>
  some (decide (x287.Section ≤ x361.Section)))
  else (
  some false)).bind (fun x345 =>
  if x345 = true then (
  some (.inr 5))
  else (
  some (.inl ()))))
  else (
  some (.inr 2))))
  else (
  some (.inr 3))

/-- fishplate/line.checkGates -/
noncomputable def mLineCheckGates (s1 : ApiNet) : Option (Int) :=
  (forM (mLineCheckGates_L197 s1) s1.Gates.length 0 ()).bind fun t => Sum.elim (fun _ =>
  some 0) (fun q => some q) t

noncomputable def mLineCheck_L305 (s1 : ApiNet) (k320 : Nat) : (Unit) → Option ((Unit) ⊕ (Int)) := fun _ =>
  if (k320 : Int) = (0 : Int) then (
  (mLineCheckLinks s1).bind fun x325 =>
  if x325 ≠ 0 then (
  some (.inr x325))
  else (
  some (.inl ())))
  else (
  if (k320 : Int) = (1 : Int) then (
  (mLineCheckSignals s1).bind fun x330 =>
  if x330 ≠ 0 then (
  some (.inr x330))
  else (
  some (.inl ())))
  else (
  if (k320 : Int) = (2 : Int) then (
  (mLineCheckGates s1).bind fun x335 =>
  if x335 ≠ 0 then (
  some (.inr x335))
  else (
  some (.inl ())))
  else (
  none)))

noncomputable def mLineCheck_L267 (s1 : ApiNet) (k285 : Nat) : (Unit) → Option ((Unit) ⊕ (Int)) := fun _ =>
  (idx s1.Sections (k285 : Int)).bind fun x289 =>
  (mLineCheckSection x289 (s1.Stations.length : Int)).bind fun x300 =>
  if x300 ≠ 0 then (
  some (.inr x300))
  else (
  some (.inl ()))

noncomputable def mLineCheck_L194 (s1 : ApiNet) (k229 : Nat) : (Unit) → Option ((Unit) ⊕ (Int)) := fun _ =>
  (idx s1.Stations (k229 : Int)).bind fun x233 =>
  (mLineName x233).bind fun x243 =>
  if x243 = true then (
  (cutS s1.Stations 0 (k229 : Int)).bind fun l247 =>
  (mSlicesContains l247 x233).bind fun x262 =>
  if x262 = true then (
  some (.inr 6))
  else (
  some (.inl ())))
  else (
  some (.inr 1))

/-- fishplate/line.Check -/
noncomputable def mLineCheck (s1 : ApiNet) : Option (Int) :=
  if (s1.Sections.length : Int) = 0 then (
  some 1)
  else (
  (if 12 < (s1.Stations.length : Int) then (
  some true)
  else (
  if 60 < (s1.Sections.length : Int) then (
  some true)
  else (
  if 90 < (s1.Links.length : Int) then (
  some true)
  else (
  if 40 < (s1.Signals.length : Int) then (
  some true)
  else (
  some (decide (8 < (s1.Gates.length : Int)))))))).bind (fun x187 =>
  if x187 = true then (
  some 4)
  else (
  (forM (mLineCheck_L194 s1) s1.Stations.length 0 ()).bind fun t => Sum.elim (fun _ =>
  (forM (mLineCheck_L267 s1) s1.Sections.length 0 ()).bind fun t => Sum.elim (fun _ =>
  (forM (mLineCheck_L305 s1) 3 0 ()).bind fun t => Sum.elim (fun _ =>
  some 0) (fun q => some q) t) (fun q => some q) t) (fun q => some q) t)))

noncomputable def mLineRead_L104 (l94 : (List (List ByteArray))) (k127 : Nat) : (Unit) → Option ((Unit) ⊕ ((List ByteArray) × (List ApiSection) × (List ApiLink) × (List ApiSignal) × (List ApiGate) × Int)) := fun _ =>
  (idx l94 (k127 : Int)).bind fun _ =>
  none

/-- fishplate/line.Read -/
noncomputable def mLineRead (x1 : ByteArray) : Option ((List ByteArray) × (List ApiSection) × (List ApiLink) × (List ApiSignal) × (List ApiGate) × Int) :=
  if 20000 < (x1.size : Int) then (
  some ([], [], [], [], [], 4))
  else (
  (mLineLines x1).bind (unc2 fun x93 l94 =>
  if x93 = true then (
  (forM (mLineRead_L104 l94) l94.length 0 ()).bind fun t => Sum.elim (fun _ =>
  (mLineCheck (⟨[], [], [], [], []⟩ : ApiNet)).bind fun x151 =>
  if x151 ≠ 0 then (
  some ([], [], [], [], [], x151))
  else (
  some ([], [], [], [], [], 0))) (fun q => some q) t)
  else (
  some ([], [], [], [], [], 10))))

/-- fishplate/fishkeep1.awakeLine -/
noncomputable def mFishkeep1AwakeLine : Option (Bool) :=
  (mLineRead (ByteArray.mk #[120])).bind (unc6 fun _ _ _ _ _ x37 =>
  some (decide (x37 ≠ 0)))

/-- fishplate/line.outs -/
noncomputable def mLineOuts (x1 : Int) (x2 : Int) : Option ((List Int)) :=
  (if x1 = 2 then (
  some (decide (x2 = 0)))
  else (
  some false)).bind (fun x42 =>
  if x42 = true then (
  some [1, 2])
  else (
  if x1 = 2 then (
  some [0])
  else (
  some [xorI .i64 x2 1])))

/-- fishplate/line.walk -/
noncomputable def mLineWalk (s1 : ApiNet) (s17 : LineEnd) : Option ((List ApiStep)) :=
  (mLineJoined s1 s17).bind (unc3 fun x y q => if q = true then (idx s1.Sections x).bind fun p => (mLineOuts p.Kind y).bind fun o => some (o.map fun k => (⟨x, y, k⟩ : ApiStep)) else some [])

/-- fishplate/line.stands-1 -/
noncomputable def mLineStands_1 (s2 : ApiStep) (x3 : Int) : Option (Bool) :=
  some (decide (s2.Section = x3))

noncomputable def mSlicesIndexFunc_L48 (l5 : (List ApiStep)) (x6 : Int) (k67 : Nat) : (Unit) → Option ((Unit) ⊕ (Int)) := fun _ =>
  (idx l5 (k67 : Int)).bind fun x71 =>
  (mLineStands_1 x71 x6).bind fun x81 =>
  if x81 = true then (
  some (.inr (k67 : Int)))
  else (
  some (.inl ()))

/-- slices.IndexFunc[[]fishplate/api.Step,fishplate/api.Step] -/
noncomputable def mSlicesIndexFunc (l5 : (List ApiStep)) (x6 : Int) : Option (Int) :=
  (forM (mSlicesIndexFunc_L48 l5 x6) l5.length 0 ()).bind fun t => Sum.elim (fun _ =>
  some (-1)) (fun q => some q) t

/-- slices.ContainsFunc[[]fishplate/api.Step,fishplate/api.Step] -/
noncomputable def mSlicesContainsFunc (l5 : (List ApiStep)) (x6 : Int) : Option (Bool) :=
  (mSlicesIndexFunc l5 x6).bind fun x12 =>
  some (decide (0 ≤ x12))

/-- fishplate/line.stands -/
noncomputable def mLineStands (l4 : (List ApiStep)) (x5 : Int) : Option (Bool) :=
  (mSlicesContainsFunc l4 x5).bind fun x13 =>
  some x13

/-- (*fishplate/line.finder).count -/
noncomputable def mLineFinderCount (_l10 : (List ByteArray)) (_l14 : (List ApiSection)) (_l18 : (List ApiLink)) (_l22 : (List ApiSignal)) (_l26 : (List ApiGate)) (x27 : Int) (x28 : Bool) (_l29 : (List ApiRoute)) : Option (Int × Bool) :=
  (chk (x27 + 1)).bind fun _ =>
  if x28 = true then (
  some (x27 + 1, true))
  else (
  some (x27 + 1, decide (80 < (x27 + 1))))

/-- slices.Clone[[]fishplate/api.Step,fishplate/api.Step] -/
noncomputable def mSlicesClone (l4 : (List ApiStep)) : Option ((List ApiStep)) :=
  (room 24 l4.length).bind fun _ => some l4

noncomputable def mSlicesIndex_2_L61 (l4 : (List ApiSignal)) (s5 : ApiSignal) (k86 : Nat) : (Unit) → Option ((Unit) ⊕ (Int)) := fun _ =>
  (idx l4 (k86 : Int)).bind fun x100 =>
  if s5.Section = x100.Section ∧ s5.End = x100.End then (
  some (.inr (k86 : Int)))
  else (
  some (.inl ()))

/-- slices.Index[[]fishplate/api.Signal,fishplate/api.Signal] -/
noncomputable def mSlicesIndex_2 (l4 : (List ApiSignal)) (s5 : ApiSignal) : Option (Int) :=
  (forM (mSlicesIndex_2_L61 l4 s5) l4.length 0 ()).bind fun t => Sum.elim (fun _ =>
  some (-1)) (fun q => some q) t

/-- fishplate/line.signal -/
noncomputable def mLineSignal (s1 : ApiNet) (s17 : LineEnd) : Option (Int) :=
  (mSlicesIndex_2 s1.Signals (⟨s17.section_, s17.end_⟩ : ApiSignal)).bind fun x25 =>
  some x25

noncomputable def mLineFinderGrow_2_L1422 (l17 : (List ByteArray)) (l21 : (List ApiSection)) (l25 : (List ApiLink)) (l29 : (List ApiSignal)) (l33 : (List ApiGate)) (l36 : (List ApiStep)) (x12 : Int) (x1386 : Int) (rcmLineFinderGrow_2 : (Int) → (LineEnd) → ((List ByteArray)) → ((List ApiSection)) → ((List ApiLink)) → ((List ApiSignal)) → ((List ApiGate)) → (Int) → (Bool) → ((List ApiStep)) → ((List ApiRoute)) → Option (Int × Bool × (List ApiRoute))) (x1827 : ApiStep) : (Int × Bool × (List ApiRoute)) → Option ((Int × Bool × (List ApiRoute)) ⊕ (Int × Bool × (List ApiRoute))) := unc3 fun x1817 x1818 l1819 =>
  if x1818 = true then (
  some (.inr (x1817, x1818, l1819)))
  else (
  (if x1827.Section = x1386 then (
  some true)
  else (
  (mLineStands l36 x1827.Section).bind fun x1842 =>
  some x1842)).bind (fun x1839 =>
  if x1839 = true then (
  (mLineFinderCount l17 l21 l25 l29 l33 x1817 x1818 l1819).bind (unc2 fun x1845 x1846 =>
  some (.inr (x1845, x1846, l1819))))
  else (
  ((mSlicesClone l36).bind fun l1904 =>
  (room 24 (l1904.length + 1)).bind fun _ =>
  some (l1904 ++ [x1827])).bind (fun l1887 =>
  if 16 < (l1887.length : Int) then (
  some (.inr (x1817, true, l1819)))
  else (
  (mLineSignal (⟨l17, l21, l25, l29, l33⟩ : ApiNet) (⟨x1827.Section, x1827.Out⟩ : LineEnd)).bind fun x1924 =>
  ((mLineJoined (⟨l17, l21, l25, l29, l33⟩ : ApiNet) (⟨x1827.Section, x1827.Out⟩ : LineEnd)).bind (unc3 fun _ _ x1953 =>
  some x1953)).bind (fun x1942 =>
  (if x1942 = true then (
  some (decide (x1924 < 0)))
  else (
  some false)).bind (fun x1961 =>
  if x1961 = true then (
  (rcmLineFinderGrow_2 x12 (⟨x1827.Section, x1827.Out⟩ : LineEnd) l17 l21 l25 l29 l33 x1817 x1818 l1887 l1819).bind (unc3 fun x1965 x1966 l1967 =>
  some (.inl (x1965, x1966, l1967))))
  else (
  ((room 40 (l1819.length + 1)).bind fun _ =>
  some (l1819 ++ [(⟨x12, x1924, l1887⟩ : ApiRoute)])).bind (fun l2000 =>
  (mLineFinderCount l17 l21 l25 l29 l33 x1817 x1818 l2000).bind (unc2 fun x2020 x2021 =>
  some (.inl (x2020, x2021, l2000))))))))))))

/-- (*fishplate/line.finder).grow -/
noncomputable def mLineFinderGrow_2 : Nat → (Int) → (LineEnd) → ((List ByteArray)) → ((List ApiSection)) → ((List ApiLink)) → ((List ApiSignal)) → ((List ApiGate)) → (Int) → (Bool) → ((List ApiStep)) → ((List ApiRoute)) → Option (Int × Bool × (List ApiRoute))
  | 0 => fun _ _ _ _ _ _ _ _ _ _ _ => none
  | N + 1 => fun x12 s13 l17 l21 l25 l29 l33 x34 x35 l36 l38 =>
  ((idx l29 x12).bind fun x1399 =>
  some x1399.Section).bind (fun x1386 =>
  (mLineWalk (⟨l17, l21, l25, l29, l33⟩ : ApiNet) s13).bind fun l1416 =>
  (forL (mLineFinderGrow_2_L1422 l17 l21 l25 l29 l33 l36 x12 x1386 (mLineFinderGrow_2 N)) l1416 (x34, x35, l38)).bind fun t => Sum.elim (unc3 fun x1817 x1818 l1819 =>
  some (x1817, x1818, l1819)) (fun q => some q) t)

noncomputable def mLineFinderGrow_L777 (x7 : Int) (l11 : (List ApiStep)) (l16 : (List ByteArray)) (l20 : (List ApiSection)) (l24 : (List ApiLink)) (l28 : (List ApiSignal)) (l32 : (List ApiGate)) (x741 : Int) (x1182 : ApiStep) : (Int × Bool × (List ApiRoute)) → Option ((Int × Bool × (List ApiRoute)) ⊕ (Int × Bool × (List ApiRoute))) := unc3 fun x1172 x1173 l1174 =>
  if x1173 = true then (
  some (.inr (x1172, x1173, l1174)))
  else (
  (if x1182.Section = x741 then (
  some true)
  else (
  (mLineStands l11 x1182.Section).bind fun x1197 =>
  some x1197)).bind (fun x1194 =>
  if x1194 = true then (
  (mLineFinderCount l16 l20 l24 l28 l32 x1172 x1173 l1174).bind (unc2 fun x1200 x1201 =>
  some (.inr (x1200, x1201, l1174))))
  else (
  ((mSlicesClone l11).bind fun l1259 =>
  (room 24 (l1259.length + 1)).bind fun _ =>
  some (l1259 ++ [x1182])).bind (fun l1242 =>
  if 16 < (l1242.length : Int) then (
  some (.inr (x1172, true, l1174)))
  else (
  (mLineSignal (⟨l16, l20, l24, l28, l32⟩ : ApiNet) (⟨x1182.Section, x1182.Out⟩ : LineEnd)).bind fun x1279 =>
  ((mLineJoined (⟨l16, l20, l24, l28, l32⟩ : ApiNet) (⟨x1182.Section, x1182.Out⟩ : LineEnd)).bind (unc3 fun _ _ x1308 =>
  some x1308)).bind (fun x1297 =>
  (if x1297 = true then (
  some (decide (x1279 < 0)))
  else (
  some false)).bind (fun x1316 =>
  if x1316 = true then (
  (lim (fun N => mLineFinderGrow_2 N x7 (⟨x1182.Section, x1182.Out⟩ : LineEnd) l16 l20 l24 l28 l32 x1172 x1173 l1242 l1174)).bind (unc3 fun x1320 x1321 l1322 =>
  some (.inl (x1320, x1321, l1322))))
  else (
  ((room 40 (l1174.length + 1)).bind fun _ =>
  some (l1174 ++ [(⟨x7, x1279, l1242⟩ : ApiRoute)])).bind (fun l1355 =>
  (mLineFinderCount l16 l20 l24 l28 l32 x1172 x1173 l1355).bind (unc2 fun x1375 x1376 =>
  some (.inl (x1375, x1376, l1355))))))))))))

/-- (*fishplate/line.finder).grow -/
noncomputable def mLineFinderGrow (x7 : Int) (l11 : (List ApiStep)) (s12 : LineEnd) (l16 : (List ByteArray)) (l20 : (List ApiSection)) (l24 : (List ApiLink)) (l28 : (List ApiSignal)) (l32 : (List ApiGate)) (x33 : Int) (x34 : Bool) (l35 : (List ApiRoute)) : Option (Int × Bool × (List ApiRoute)) :=
  ((idx l28 x7).bind fun x754 =>
  some x754.Section).bind (fun x741 =>
  (mLineWalk (⟨l16, l20, l24, l28, l32⟩ : ApiNet) s12).bind fun l771 =>
  (forL (mLineFinderGrow_L777 x7 l11 l16 l20 l24 l28 l32 x741) l771 (x33, x34, l35)).bind fun t => Sum.elim (unc3 fun x1172 x1173 l1174 =>
  some (x1172, x1173, l1174)) (fun q => some q) t)

noncomputable def mLineRoutes_2_L121 (s1 : ApiNet) (k187 : Nat) : (Int × Bool × (List ApiRoute)) → Option (Int × Bool × (List ApiRoute)) := unc3 fun x183 x184 l185 =>
  (idx s1.Signals (k187 : Int)).bind fun x190 =>
  (mLineFinderGrow (k187 : Int) [] (⟨x190.Section, x190.End⟩ : LineEnd) s1.Stations s1.Sections s1.Links s1.Signals s1.Gates x183 x184 l185).bind (unc3 fun x201 x202 l203 =>
  some (x201, x202, l203))

/-- fishplate/line.routes -/
noncomputable def mLineRoutes_2 (s1 : ApiNet) : Option (Int × (List ApiRoute)) :=
  (forS (mLineRoutes_2_L121 s1) s1.Signals.length 0 ((0, false, []) : Int × Bool × (List ApiRoute))).bind (unc3 fun _ x184 l185 =>
  if x184 = true then (
  some (4, []))
  else (
  some (0, l185)))

/-- fishplate/line.Routes -/
noncomputable def mLineRoutes (s1 : ApiNet) : Option (Int × (List ApiRoute)) :=
  (mLineCheck s1).bind fun x40 =>
  if x40 ≠ 0 then (
  some (x40, []))
  else (
  (mLineRoutes_2 s1).bind (unc2 fun x43 l44 =>
  some (x43, l44)))

noncomputable def mLineSome_L91 (l20 : (List Int)) (l81 : (List ApiRoute)) (k109 : Nat) : (Unit) → Option ((Unit) ⊕ (Int × (List ApiRoute))) := fun _ =>
  (idx l20 (k109 : Int)).bind fun x113 =>
  (chk ((l81.length : Int) - 1)).bind fun _ =>
  (mLineWithin x113 0 ((l81.length : Int) - 1)).bind fun x124 =>
  if x124 = true then (
  some (.inl ()))
  else (
  some (.inr (3, [])))

/-- fishplate/line.some -/
noncomputable def mLineSome (s1 : ApiNet) (l20 : (List Int)) : Option (Int × (List ApiRoute)) :=
  (mLineRoutes s1).bind (unc2 fun x80 l81 =>
  if x80 ≠ 0 then (
  some (x80, []))
  else (
  (forM (mLineSome_L91 l20 l81) l20.length 0 ()).bind fun t => Sum.elim (fun _ =>
  some (0, l81)) (fun q => some q) t))

noncomputable def mLineOverlap_L1918  (x1927 : ApiStep) : (Unit) → Option ((Unit) ⊕ (Int × Int × Int × Bool)) := fun _ =>
  some (.inr (x1927.Section, x1927.In, x1927.Out, true))

noncomputable def mLineOverlap_L1575 (s1 : ApiNet) (s17 : ApiRoute) : (Int × Int × Int × (List ApiStep)) → Option ((Int × Int × Int × (List ApiStep)) ⊕ ((List ApiStep))) := unc4 fun x1877 x1878 x1879 l1880 =>
  if x1877 < 50 then (
  ((mLineWalk s1 (⟨x1878, x1879⟩ : LineEnd)).bind fun l1912 =>
  (forL mLineOverlap_L1918 l1912 ()).bind fun t => Sum.elim (fun _ =>
  some (0, 0, 0, false)) (fun q => some q) t).bind (unc4 fun x1907 x1908 x1909 x1910 =>
  (if x1910 = true then (
  (mLineStands s17.Steps x1907).bind fun x1989 =>
  if x1989 = true then (
  some true)
  else (
  (mLineStands l1880 x1907).bind fun x1992 =>
  if x1992 = true then (
  some true)
  else (
  (idx s1.Signals s17.From).bind fun x1995 =>
  some (decide (x1907 = x1995.Section)))))
  else (
  some true)).bind (fun x1969 =>
  if x1969 = true then (
  some (.inr l1880))
  else (
  (room 24 (l1880.length + 1)).bind fun _ =>
  (idx s1.Sections x1907).bind fun x2012 =>
  (chk (x1877 + x2012.Length)).bind fun _ =>
  some (.inl (x1877 + x2012.Length, x1907, x1909, l1880 ++ [(⟨x1907, x1908, x1909⟩ : ApiStep)]))))))
  else (
  some (.inr l1880))

/-- fishplate/line.overlap -/
noncomputable def mLineOverlap (s1 : ApiNet) (s17 : ApiRoute) : Option ((List ApiStep)) :=
  if s17.To < 0 then (
  some [])
  else (
  ((idx s1.Signals s17.To).bind fun x1097 =>
  (idx s1.Signals s17.To).bind fun x1107 =>
  some (x1097.Section, x1107.End)).bind (unc2 fun x1073 x1074 =>
  (loopM (mLineOverlap_L1575 s1 s17) ((0, x1073, x1074, []) : Int × Int × Int × (List ApiStep))).bind (fun l1573 =>
  some l1573)))

/-- fishplate/line.position -/
noncomputable def mLinePosition (s1 : ApiNet) (s17 : ApiStep) : Option (Int) :=
  (idx s1.Sections s17.Section).bind fun x34 =>
  if x34.Kind = 2 then (
  some (max s17.In s17.Out))
  else (
  some 0)

/-- (*fishplate/line.looker).need -/
noncomputable def mLineLookerNeed (s16 : ApiNeed) (_l20 : (List ByteArray)) (_l24 : (List ApiSection)) (_l28 : (List ApiLink)) (_l32 : (List ApiSignal)) (_l36 : (List ApiGate)) (_x37 : Int) (_x38 : Int) (_l42 : (List ApiStep)) (_l43 : (List ApiStep)) (l44 : (List ApiNeed)) (l46 : (List (ApiNeed × Bool))) : Option ((List ApiNeed) × (List (ApiNeed × Bool))) :=
  (some (mgetD l46 s16 false)).bind fun x100 =>
  if x100 = true then (
  some (l44, l46))
  else (
  (room 32 (l44.length + 1)).bind fun _ =>
  some (l44 ++ [s16], mput l46 s16 true))

/-- (*fishplate/line.looker).flank-1 -/
noncomputable def mLineLookerFlank_1 (s3 : ApiNeed) (x4 : Int) (x5 : Int) : Option (Bool) :=
  (if s3.Kind = 3 then (
  if s3.Place = x4 then (
  some (decide (s3.Position = x5)))
  else (
  some false))
  else (
  some false)).bind (fun x21 =>
  some x21)

noncomputable def mSlicesIndexFunc_2_L65 (x8 : Int) (x9 : Int) (l10 : (List ApiNeed)) (k90 : Nat) : (Unit) → Option ((Unit) ⊕ (Int)) := fun _ =>
  (idx l10 (k90 : Int)).bind fun x94 =>
  (mLineLookerFlank_1 x94 x8 x9).bind fun x110 =>
  if x110 = true then (
  some (.inr (k90 : Int)))
  else (
  some (.inl ()))

/-- slices.IndexFunc[[]fishplate/api.Need,fishplate/api.Need] -/
noncomputable def mSlicesIndexFunc_2 (x8 : Int) (x9 : Int) (l10 : (List ApiNeed)) : Option (Int) :=
  (forM (mSlicesIndexFunc_2_L65 x8 x9 l10) l10.length 0 ()).bind fun t => Sum.elim (fun _ =>
  some (-1)) (fun q => some q) t

/-- slices.ContainsFunc[[]fishplate/api.Need,fishplate/api.Need] -/
noncomputable def mSlicesContainsFunc_2 (x8 : Int) (x9 : Int) (l10 : (List ApiNeed)) : Option (Bool) :=
  (mSlicesIndexFunc_2 x8 x9 l10).bind fun x17 =>
  some (decide (0 ≤ x17))

/-- (*fishplate/line.looker).flank -/
noncomputable def mLineLookerFlank (x16 : Int) (x17 : Int) (_l21 : (List ByteArray)) (_l25 : (List ApiSection)) (_l29 : (List ApiLink)) (_l33 : (List ApiSignal)) (_l37 : (List ApiGate)) (_x38 : Int) (_x39 : Int) (_l43 : (List ApiStep)) (_l44 : (List ApiStep)) (l45 : (List ApiNeed)) (_l47 : (List (ApiNeed × Bool))) : Option (Bool) :=
  (mSlicesContainsFunc_2 x16 x17 l45).bind fun x57 =>
  some x57

noncomputable def mLineLookerLook_1_L1139 (l25 : (List ByteArray)) (l29 : (List ApiSection)) (l33 : (List ApiLink)) (l37 : (List ApiSignal)) (l41 : (List ApiGate)) (l47 : (List ApiStep)) (l48 : (List ApiStep)) (x20 : Int) (x21 : Int) (x42 : Int) (x43 : Int) (x847 : Int) (l1132 : (List Int)) (rcmLineLookerLook_1 : (LineEnd) → (Int) → (Int) → ((List ByteArray)) → ((List ApiSection)) → ((List ApiLink)) → ((List ApiSignal)) → ((List ApiGate)) → (Int) → (Int) → ((List ApiStep)) → ((List ApiStep)) → ((List ApiNeed)) → ((List (ApiNeed × Bool))) → Option ((List ApiNeed) × (List (ApiNeed × Bool)))) (k1215 : Nat) : ((List ApiNeed) × (List (ApiNeed × Bool))) → Option ((List ApiNeed) × (List (ApiNeed × Bool))) := unc2 fun l1212 l1214 =>
  (idx l1132 (k1215 : Int)).bind fun x1218 =>
  (chk (x20 + 1)).bind fun _ =>
  (rcmLineLookerLook_1 (⟨x847, x1218⟩ : LineEnd) (x20 + 1) x21 l25 l29 l33 l37 l41 x42 x43 l47 l48 l1212 l1214).bind (unc2 fun l1229 l1230 =>
  some (l1229, l1230))

/-- (*fishplate/line.looker).look-1 -/
noncomputable def mLineLookerLook_1 : Nat → (LineEnd) → (Int) → (Int) → ((List ByteArray)) → ((List ApiSection)) → ((List ApiLink)) → ((List ApiSignal)) → ((List ApiGate)) → (Int) → (Int) → ((List ApiStep)) → ((List ApiStep)) → ((List ApiNeed)) → ((List (ApiNeed × Bool))) → Option ((List ApiNeed) × (List (ApiNeed × Bool)))
  | 0 => fun _ _ _ _ _ _ _ _ _ _ _ _ _ _ => none
  | N + 1 => fun s19 x20 x21 l25 l29 l33 l37 l41 x42 x43 l47 l48 l49 l51 =>
  ((mLineJoined (⟨l25, l29, l33, l37, l41⟩ : ApiNet) s19).bind (unc3 fun x857 x858 x859 =>
  some (x859, x857, x858))).bind (unc3 fun x846 x847 x848 =>
  (if x846 = true then (
  if x20 = 8 then (
  some true)
  else (
  (mLineStands l47 x847).bind fun x891 =>
  if x891 = true then (
  some true)
  else (
  (mLineStands l48 x847).bind fun x894 =>
  some x894)))
  else (
  some true)).bind (fun x880 =>
  if x880 = true then (
  some (l49, l51))
  else (
  (idx l29 x847).bind fun x909 =>
  ((if x909.Kind = 2 then (
  some (decide (0 < x848)))
  else (
  some false)).bind (fun x1029 =>
  if x1029 = true then (
  ((mLineLookerFlank x847 x848 l25 l29 l33 l37 l41 x42 x43 l47 l48 l49 l51).bind fun x1065 =>
  if x1065 = true then (
  some (l49, l51))
  else (
  (chk (3 - x848)).bind fun _ =>
  (mLineLookerNeed (⟨3, x847, 3 - x848, x21⟩ : ApiNeed) l25 l29 l33 l37 l41 x42 x43 l47 l48 l49 l51).bind (unc2 fun l1071 l1072 =>
  some (l1071, l1072)))).bind (unc2 fun l1061 l1063 =>
  some (.inr (l1061, l1063))))
  else (
  if x909.Kind = 1 then (
  (mLineSignal (⟨l25, l29, l33, l37, l41⟩ : ApiNet) (⟨x847, x848⟩ : LineEnd)).bind fun x1087 =>
  if 0 ≤ x1087 then (
  (if x1087 ≠ x42 then (
  (mLineLookerNeed (⟨4, x1087, 0, x21⟩ : ApiNeed) l25 l29 l33 l37 l41 x42 x43 l47 l48 l49 l51).bind (unc2 fun l1118 l1119 =>
  some (l1118, l1119)))
  else (
  some (l49, l51))).bind (unc2 fun l1113 l1115 =>
  some (.inr (l1113, l1115))))
  else (
  some (.inl ())))
  else (
  some (.inl ()))))).bind fun t => Sum.elim (fun _ =>
  (mLineOuts x909.Kind x848).bind fun l1132 =>
  (forS (mLineLookerLook_1_L1139 l25 l29 l33 l37 l41 l47 l48 x20 x21 x42 x43 x847 l1132 (mLineLookerLook_1 N)) l1132.length 0 (l49, l51)).bind (unc2 fun l1212 l1214 =>
  some (l1212, l1214))) (fun r1242 => some r1242) t)))

noncomputable def mLineLookerLook_L306 (l20 : (List ByteArray)) (l24 : (List ApiSection)) (l28 : (List ApiLink)) (l32 : (List ApiSignal)) (l36 : (List ApiGate)) (l42 : (List ApiStep)) (l43 : (List ApiStep)) (x16 : Int) (x37 : Int) (x38 : Int) (x256 : Int) (x257 : Int) (x258 : Int) (k374 : Nat) : ((List ApiNeed) × (List (ApiNeed × Bool))) → Option ((List ApiNeed) × (List (ApiNeed × Bool))) := unc2 fun l371 l373 =>
  (if (k374 : Int) ≠ x257 then (
  some (decide ((k374 : Int) ≠ x258)))
  else (
  some false)).bind (fun x380 =>
  if x380 = true then (
  (lim (fun N => mLineLookerLook_1 N (⟨x256, (k374 : Int)⟩ : LineEnd) 0 x16 l20 l24 l28 l32 l36 x37 x38 l42 l43 l371 l373)).bind (unc2 fun l384 l385 =>
  some (l384, l385)))
  else (
  some (l371, l373)))

/-- (*fishplate/line.looker).look -/
noncomputable def mLineLookerLook (x16 : Int) (l20 : (List ByteArray)) (l24 : (List ApiSection)) (l28 : (List ApiLink)) (l32 : (List ApiSignal)) (l36 : (List ApiGate)) (x37 : Int) (x38 : Int) (l42 : (List ApiStep)) (l43 : (List ApiStep)) (l44 : (List ApiNeed)) (l46 : (List (ApiNeed × Bool))) : Option ((List ApiNeed) × (List (ApiNeed × Bool))) :=
  ((idx l42 x16).bind fun x271 =>
  some (x271.Section, x271.In, x271.Out)).bind (unc3 fun x256 x257 x258 =>
  (idx l24 x256).bind fun x294 =>
  (mLineEnds x294.Kind).bind fun x304 =>
  (chk x304).bind fun _ =>
  (forS (mLineLookerLook_L306 l20 l24 l28 l32 l36 l42 l43 x16 x37 x38 x256 x257 x258) ((x304).toNat) 0 (l44, l46)).bind (unc2 fun l371 l373 =>
  some (l371, l373)))

noncomputable def mLineNeeds_L860 (s1 : ApiNet) (s17 : ApiRoute) (l523 : (List ApiStep)) (k914 : Nat) : ((List ApiNeed) × (List (ApiNeed × Bool))) → Option ((List ApiNeed) × (List (ApiNeed × Bool))) := unc2 fun l911 l913 =>
  (mLineLookerLook (k914 : Int) s1.Stations s1.Sections s1.Links s1.Signals s1.Gates s17.From s17.To s17.Steps l523 l911 l913).bind (unc2 fun l917 l918 =>
  some (l917, l918))

noncomputable def mLineNeeds_L696 (s1 : ApiNet) (s17 : ApiRoute) (l523 : (List ApiStep)) (k812 : Nat) : ((List ApiNeed) × (List (ApiNeed × Bool))) → Option ((List ApiNeed) × (List (ApiNeed × Bool))) := unc2 fun l809 l811 =>
  (idx l523 (k812 : Int)).bind fun x815 =>
  (mLinePosition s1 x815).bind fun x846 =>
  (mLineLookerNeed (⟨2, x815.Section, x846, (-1)⟩ : ApiNeed) s1.Stations s1.Sections s1.Links s1.Signals s1.Gates s17.From s17.To s17.Steps l523 l809 l811).bind (unc2 fun l848 l849 =>
  some (l848, l849))

noncomputable def mLineNeeds_L550 (s1 : ApiNet) (s17 : ApiRoute) (l523 : (List ApiStep)) (k654 : Nat) : ((List ApiNeed) × (List (ApiNeed × Bool))) → Option ((List ApiNeed) × (List (ApiNeed × Bool))) := unc2 fun l651 l653 =>
  (idx s17.Steps (k654 : Int)).bind fun x657 =>
  (mLinePosition s1 x657).bind fun x682 =>
  (mLineLookerNeed (⟨1, x657.Section, x682, (k654 : Int)⟩ : ApiNeed) s1.Stations s1.Sections s1.Links s1.Signals s1.Gates s17.From s17.To s17.Steps l523 l651 l653).bind (unc2 fun l684 l685 =>
  some (l684, l685))

/-- fishplate/line.needs -/
noncomputable def mLineNeeds (s1 : ApiNet) (s17 : ApiRoute) : Option ((List ApiNeed)) :=
  ((mLineOverlap s1 s17).bind fun l538 =>
  some (l538, ([] : (List (ApiNeed × Bool))))).bind (unc2 fun l523 l524 =>
  (forS (mLineNeeds_L550 s1 s17 l523) s17.Steps.length 0 (([], l524) : (List ApiNeed) × (List (ApiNeed × Bool)))).bind (unc2 fun l651 l653 =>
  (forS (mLineNeeds_L696 s1 s17 l523) l523.length 0 (l651, l653)).bind (unc2 fun l809 l811 =>
  (forS (mLineNeeds_L860 s1 s17 l523) s17.Steps.length 0 (l809, l811)).bind (unc2 fun l911 l913 =>
  (mLineLookerNeed (⟨5, s17.From, 0, (-1)⟩ : ApiNeed) s1.Stations s1.Sections s1.Links s1.Signals s1.Gates s17.From s17.To s17.Steps l523 l911 l913).bind (unc2 fun l930 _ =>
  some l930)))))

/-- fishplate/line.Meets-1 -/
noncomputable def mLineMeets_1 (s1 : ApiNeed) : Option (Bool) :=
  (if s1.Kind = 1 then (
  some true)
  else (
  some (decide (s1.Kind = 2)))).bind (fun x14 =>
  some x14)

/-- fishplate/line.Meets-2 -/
noncomputable def mLineMeets_2 (s2 : ApiNeed) (s3 : ApiNeed) : Option (Bool) :=
  (if s2.Kind = 3 then (
  if s3.Kind = 3 then (
  some (decide (s2.Position ≠ s3.Position)))
  else (
  (mLineMeets_1 s3).bind fun x34 =>
  if x34 = true then (
  some (decide (s2.Position ≠ s3.Position)))
  else (
  some false)))
  else (
  some false)).bind (fun x30 =>
  some x30)

/-- fishplate/line.Meets-3 -/
noncomputable def mLineMeets_3 (s1 : ApiNeed) (s2 : ApiNeed) : Option (Bool) :=
  (if s1.Kind = 4 then (
  some (decide (s2.Kind = 5)))
  else (
  some false)).bind (fun x17 =>
  some x17)

/-- fishplate/line.Meets -/
noncomputable def mLineMeets (s1 : ApiNeed) (s2 : ApiNeed) : Option (Bool) :=
  if s1.Place ≠ s2.Place then (
  some false)
  else (
  ((mLineMeets_1 s1).bind fun x128 =>
  if x128 = true then (
  (mLineMeets_1 s2).bind fun x131 =>
  if x131 = true then (
  some true)
  else (
  (mLineMeets_2 s1 s2).bind fun x134 =>
  if x134 = true then (
  some true)
  else (
  (mLineMeets_2 s2 s1).bind fun x139 =>
  if x139 = true then (
  some true)
  else (
  (mLineMeets_3 s1 s2).bind fun x144 =>
  if x144 = true then (
  some true)
  else (
  (mLineMeets_3 s2 s1).bind fun x147 =>
  some x147)))))
  else (
  (mLineMeets_2 s1 s2).bind fun x149 =>
  if x149 = true then (
  some true)
  else (
  (mLineMeets_2 s2 s1).bind fun x154 =>
  if x154 = true then (
  some true)
  else (
  (mLineMeets_3 s1 s2).bind fun x159 =>
  if x159 = true then (
  some true)
  else (
  (mLineMeets_3 s2 s1).bind fun x162 =>
  some x162))))).bind (fun x126 =>
  some x126))

/-- fishplate/line.meet-1-1 -/
noncomputable def mLineMeet_1_1 (s2 : ApiNeed) (x3 : Int) (x4 : Int) (x5 : Int) (x6 : Int) : Option (Bool) :=
  (mLineMeets (⟨x3, x4, x5, x6⟩ : ApiNeed) s2).bind fun x12 =>
  some x12

noncomputable def mSlicesIndexFunc_4_L51 (l5 : (List ApiNeed)) (x6 : Int) (x7 : Int) (x8 : Int) (x9 : Int) (k70 : Nat) : (Unit) → Option ((Unit) ⊕ (Int)) := fun _ =>
  (idx l5 (k70 : Int)).bind fun x74 =>
  (mLineMeet_1_1 x74 x6 x7 x8 x9).bind fun x84 =>
  if x84 = true then (
  some (.inr (k70 : Int)))
  else (
  some (.inl ()))

/-- slices.IndexFunc[[]fishplate/api.Need,fishplate/api.Need] -/
noncomputable def mSlicesIndexFunc_4 (l5 : (List ApiNeed)) (x6 : Int) (x7 : Int) (x8 : Int) (x9 : Int) : Option (Int) :=
  (forM (mSlicesIndexFunc_4_L51 l5 x6 x7 x8 x9) l5.length 0 ()).bind fun t => Sum.elim (fun _ =>
  some (-1)) (fun q => some q) t

/-- slices.ContainsFunc[[]fishplate/api.Need,fishplate/api.Need] -/
noncomputable def mSlicesContainsFunc_4 (l5 : (List ApiNeed)) (x6 : Int) (x7 : Int) (x8 : Int) (x9 : Int) : Option (Bool) :=
  (mSlicesIndexFunc_4 l5 x6 x7 x8 x9).bind fun x15 =>
  some (decide (0 ≤ x15))

/-- fishplate/line.meet-1 -/
noncomputable def mLineMeet_1 (s2 : ApiNeed) (l6 : (List ApiNeed)) : Option (Bool) :=
  (mSlicesContainsFunc_4 l6 s2.Kind s2.Place s2.Position s2.At).bind fun x14 =>
  some x14

noncomputable def mSlicesIndexFunc_3_L51 (l5 : (List ApiNeed)) (l9 : (List ApiNeed)) (k70 : Nat) : (Unit) → Option ((Unit) ⊕ (Int)) := fun _ =>
  (idx l5 (k70 : Int)).bind fun x74 =>
  (mLineMeet_1 x74 l9).bind fun x84 =>
  if x84 = true then (
  some (.inr (k70 : Int)))
  else (
  some (.inl ()))

/-- slices.IndexFunc[[]fishplate/api.Need,fishplate/api.Need] -/
noncomputable def mSlicesIndexFunc_3 (l5 : (List ApiNeed)) (l9 : (List ApiNeed)) : Option (Int) :=
  (forM (mSlicesIndexFunc_3_L51 l5 l9) l5.length 0 ()).bind fun t => Sum.elim (fun _ =>
  some (-1)) (fun q => some q) t

/-- slices.ContainsFunc[[]fishplate/api.Need,fishplate/api.Need] -/
noncomputable def mSlicesContainsFunc_3 (l5 : (List ApiNeed)) (l9 : (List ApiNeed)) : Option (Bool) :=
  (mSlicesIndexFunc_3 l5 l9).bind fun x15 =>
  some (decide (0 ≤ x15))

/-- fishplate/line.meet -/
noncomputable def mLineMeet (l4 : (List ApiNeed)) (l8 : (List ApiNeed)) : Option (Bool) :=
  (mSlicesContainsFunc_3 l4 l8).bind fun x16 =>
  some x16

/-- fishplate/line.Clash -/
noncomputable def mLineClash (s1 : ApiNet) (x17 : Int) (x18 : Int) : Option (Bool × Int) :=
  (mLineSome s1 [x17, x18]).bind (unc2 fun x290 l291 =>
  if x290 ≠ 0 then (
  some (false, x290))
  else (
  (if x17 = x18 then (
  some true)
  else (
  (idx l291 x17).bind fun x483 =>
  (mLineNeeds s1 x483).bind fun l502 =>
  (idx l291 x18).bind fun x511 =>
  (mLineNeeds s1 x511).bind fun l530 =>
  (mLineMeet l502 l530).bind fun x539 =>
  some x539)).bind (fun x421 =>
  some (x421, 0))))

noncomputable def mLineTable_L4080 (k4077 : Nat) (k4560 : Nat) : ((List ApiRow)) → Option ((List ApiRow)) := fun l4558 =>
  (if (k4077 : Int) ≠ (k4560 : Int) then (
  (idx l4558 (k4077 : Int)).bind fun x4709 =>
  (idx l4558 (k4560 : Int)).bind fun x4731 =>
  (mLineMeet x4709.Needs x4731.Needs).bind fun x4753 =>
  some x4753)
  else (
  some false)).bind (fun x4659 =>
  if x4659 = true then (
  (idx l4558 (k4077 : Int)).bind fun x4756 =>
  (room 8 (x4756.Clashes.length + 1)).bind fun _ =>
  (idx l4558 (k4077 : Int)).bind fun _ =>
  some (put l4558 (k4077 : Int) (⟨x4756.Needs, x4756.Clashes ++ [(k4560 : Int)]⟩ : ApiRow)))
  else (
  some l4558))

noncomputable def mLineTable_L2631  (k4077 : Nat) : ((List ApiRow)) → Option ((List ApiRow)) := fun l4075 =>
  (forS (mLineTable_L4080 k4077) l4075.length 0 l4075).bind (fun l4558 =>
  some l4558)

noncomputable def mLineTable_L2428 (s1 : ApiNet) (l2412 : (List ApiRoute)) (k2566 : Nat) : ((List ApiRow)) → Option ((List ApiRow)) := fun l2564 =>
  (idx l2412 (k2566 : Int)).bind fun x2569 =>
  (mLineNeeds s1 x2569).bind fun l2589 =>
  (idx l2564 (k2566 : Int)).bind fun x2598 =>
  some (put l2564 (k2566 : Int) (⟨l2589, x2598.Clashes⟩ : ApiRow))

/-- fishplate/line.Table -/
noncomputable def mLineTable (s1 : ApiNet) : Option (Int × (List ApiRow)) :=
  (mLineRoutes s1).bind (unc2 fun x2411 l2412 =>
  if x2411 ≠ 0 then (
  some (x2411, []))
  else (
  (mkLen 48 (l2412.length : Int)).bind fun m2422 =>
  (forS (mLineTable_L2428 s1 l2412) l2412.length 0 (List.replicate m2422 ((⟨([] : List ApiNeed), ([] : List Int)⟩ : ApiRow) : ApiRow) : (List ApiRow))).bind (fun l2564 =>
  (forS mLineTable_L2631 l2564.length 0 l2564).bind (fun l4075 =>
  some (0, l4075)))))

noncomputable def mSlicesIndex_3_L39 (l4 : (List Int)) (x5 : Int) (k54 : Nat) : (Unit) → Option ((Unit) ⊕ (Int)) := fun _ =>
  (idx l4 (k54 : Int)).bind fun x58 =>
  if x5 = x58 then (
  some (.inr (k54 : Int)))
  else (
  some (.inl ()))

/-- slices.Index[[]int,int] -/
noncomputable def mSlicesIndex_3 (l4 : (List Int)) (x5 : Int) : Option (Int) :=
  (forM (mSlicesIndex_3_L39 l4 x5) l4.length 0 ()).bind fun t => Sum.elim (fun _ =>
  some (-1)) (fun q => some q) t

/-- slices.Contains[[]int,int] -/
noncomputable def mSlicesContains_2 (l4 : (List Int)) (x5 : Int) : Option (Bool) :=
  (mSlicesIndex_3 l4 x5).bind fun x9 =>
  some (decide (0 ≤ x9))

noncomputable def mFishkeep1LineSafe_L738 (x711 : ApiNeed) (x722 : ApiRow) (k784 : Nat) : (Unit) → Option ((Unit) ⊕ ((Unit) ⊕ (Bool))) := fun _ =>
  (idx x722.Needs (k784 : Int)).bind fun x788 =>
  (if x711.Kind ≤ 2 then (
  if x788.Kind ≤ 2 then (
  some (decide (x711.Place = x788.Place)))
  else (
  some false))
  else (
  some false)).bind (fun x803 =>
  (if x711.Kind ≤ 3 then (
  if x788.Kind ≤ 3 then (
  if x711.Place = x788.Place then (
  some (decide (x711.Position ≠ x788.Position)))
  else (
  some false))
  else (
  some false))
  else (
  some false)).bind (fun x812 =>
  (if x803 = true then (
  some true)
  else (
  if x812 = true then (
  some true)
  else (
  if x711.Kind = 4 then (
  if x788.Kind = 5 then (
  some (decide (x711.Place = x788.Place)))
  else (
  some false))
  else (
  some false)))).bind (fun x823 =>
  if x823 = true then (
  some (.inr (.inr false)))
  else (
  some (.inl ())))))

noncomputable def mFishkeep1LineSafe_L583 (x18 : Int) (l446 : (List ApiRow)) (x567 : ApiRow) (k707 : Nat) : (Unit) → Option ((Unit) ⊕ (Bool)) := fun _ =>
  (idx x567.Needs (k707 : Int)).bind fun x711 =>
  (idx l446 x18).bind fun x722 =>
  (forM (mFishkeep1LineSafe_L738 x711 x722) x722.Needs.length 0 ()).bind fun t => Sum.elim (fun _ =>
  some (.inl ())) (fun q => some q) t

/-- fishplate/fishkeep1.LineSafe -/
noncomputable def mFishkeep1LineSafe (s1 : ApiNet) (x17 : Int) (x18 : Int) : Option (Bool) :=
  (mFishkeep1AwakeLine).bind fun x428 =>
  if x428 = true then (
  (mLineClash s1 x17 x18).bind (unc2 fun x431 x432 =>
  (mLineClash s1 x18 x17).bind (unc2 fun x434 x435 =>
  (if (decide (x431 ≠ x434)) = true then (
  some true)
  else (
  some (decide (x432 ≠ x435)))).bind (fun x440 =>
  if x440 = true then (
  some false)
  else (
  if x432 ≠ 0 then (
  some true)
  else (
  (mLineTable s1).bind (unc2 fun x445 l446 =>
  (if x445 ≠ 0 then (
  some true)
  else (
  if (l446.length : Int) ≤ x17 then (
  some true)
  else (
  some (decide ((l446.length : Int) ≤ x18))))).bind (fun x462 =>
  if x462 = true then (
  some false)
  else (
  if x431 = true then (
  (if x17 = x18 then (
  some true)
  else (
  (idx l446 x17).bind fun x511 =>
  (mSlicesContains_2 x511.Clashes x18).bind fun x527 =>
  if x527 = true then (
  (idx l446 x18).bind fun x530 =>
  (mSlicesContains_2 x530.Clashes x17).bind fun x546 =>
  some x546)
  else (
  some false))).bind (fun x508 =>
  some x508))
  else (
  (idx l446 x17).bind fun x548 =>
  (mSlicesContains_2 x548.Clashes x18).bind fun x564 =>
  if x564 = true then (
  some false)
  else (
  (idx l446 x17).bind fun x567 =>
  (forM (mFishkeep1LineSafe_L583 x18 l446 x567) x567.Needs.length 0 ()).bind fun t => Sum.elim (fun _ =>
  some true) (fun q => some q) t)))))))))))
  else (
  some false)

end Go.Proofs.YtcibjjhanafojaaGreatDoor
