/- The models of the functions, as the extractor printed them. -/
import Derived.Test.YtcibjjhanafojaaGreatDoorXG
set_option linter.unusedVariables false
set_option linter.unusedSimpArgs false
namespace Go.Proofs.YtcibjjhanafojaaGreatDoor
open Go.RowKit Go.Fp

structure ApiSection where
  Kind : Int
  Length : Int
  Grade : Int
  Speed : Int
  Slow : Int
  Station : Int
  Axles : Bool
  deriving DecidableEq
def rApiSection : RT ApiSection := (RT.cat (RT.on (RT.int .i64) ApiSection.Kind) (RT.cat (RT.on (RT.int .i64) ApiSection.Length) (RT.cat (RT.on (RT.int .i64) ApiSection.Grade) (RT.cat (RT.on (RT.int .i64) ApiSection.Speed) (RT.cat (RT.on (RT.int .i64) ApiSection.Slow) (RT.cat (RT.on (RT.int .i64) ApiSection.Station) (RT.on RT.bool ApiSection.Axles)))))))
structure ApiLink where
  A : Int
  EndA : Int
  B : Int
  EndB : Int
  deriving DecidableEq
def rApiLink : RT ApiLink := (RT.cat (RT.on (RT.int .i64) ApiLink.A) (RT.cat (RT.on (RT.int .i64) ApiLink.EndA) (RT.cat (RT.on (RT.int .i64) ApiLink.B) (RT.on (RT.int .i64) ApiLink.EndB))))
structure ApiSignal where
  Section : Int
  End : Int
  deriving DecidableEq
def rApiSignal : RT ApiSignal := (RT.cat (RT.on (RT.int .i64) ApiSignal.Section) (RT.on (RT.int .i64) ApiSignal.End))
structure ApiGate where
  Section : Int
  Close : Int
  deriving DecidableEq
def rApiGate : RT ApiGate := (RT.cat (RT.on (RT.int .i64) ApiGate.Section) (RT.on (RT.int .i64) ApiGate.Close))
structure ApiNet where
  Stations : (List ByteArray)
  Sections : (List ApiSection)
  Links : (List ApiLink)
  Signals : (List ApiSignal)
  Gates : (List ApiGate)
def rApiNet : RT ApiNet := (RT.cat (RT.on (RT.list RT.str) ApiNet.Stations) (RT.cat (RT.on (RT.list rApiSection) ApiNet.Sections) (RT.cat (RT.on (RT.list rApiLink) ApiNet.Links) (RT.cat (RT.on (RT.list rApiSignal) ApiNet.Signals) (RT.on (RT.list rApiGate) ApiNet.Gates)))))
structure LineEnd where
  section_ : Int
  end_ : Int
  deriving DecidableEq
def rLineEnd : RT LineEnd := (RT.cat (RT.on (RT.int .i64) LineEnd.section_) (RT.on (RT.int .i64) LineEnd.end_))
structure ApiStep where
  Section : Int
  In : Int
  Out : Int
  deriving DecidableEq
def rApiStep : RT ApiStep := (RT.cat (RT.on (RT.int .i64) ApiStep.Section) (RT.cat (RT.on (RT.int .i64) ApiStep.In) (RT.on (RT.int .i64) ApiStep.Out)))
structure ApiRoute where
  From : Int
  To : Int
  Steps : (List ApiStep)
def rApiRoute : RT ApiRoute := (RT.cat (RT.on (RT.int .i64) ApiRoute.From) (RT.cat (RT.on (RT.int .i64) ApiRoute.To) (RT.on (RT.list rApiStep) ApiRoute.Steps)))
structure ApiNeed where
  Kind : Int
  Place : Int
  Position : Int
  At : Int
  deriving DecidableEq
def rApiNeed : RT ApiNeed := (RT.cat (RT.on (RT.int .i64) ApiNeed.Kind) (RT.cat (RT.on (RT.int .i64) ApiNeed.Place) (RT.cat (RT.on (RT.int .i64) ApiNeed.Position) (RT.on (RT.int .i64) ApiNeed.At))))

/-- internal/stringslite.HasSuffix -/
noncomputable def mStringsliteHasSuffix (x1 : ByteArray) (x2 : ByteArray) : Option (Bool) :=
  (if (x2.size : Int) ≤ (x1.size : Int) then (
  (chk ((x1.size : Int) - (x2.size : Int))).bind fun _ =>
  (sCut x1 ((x1.size : Int) - (x2.size : Int)) (x1.size : Int)).bind fun q26 =>
  some (sEq q26 x2))
  else (
  some false)).bind (fun x22 =>
  some x22)

/-- internal/stringslite.CutSuffix -/
noncomputable def mStringsliteCutSuffix (x1 : ByteArray) (x2 : ByteArray) : Option (ByteArray × Bool) :=
  (mStringsliteHasSuffix x1 x2).bind fun x11 =>
  if x11 = true then (
  (chk ((x1.size : Int) - (x2.size : Int))).bind fun _ =>
  (sCut x1 0 ((x1.size : Int) - (x2.size : Int))).bind fun q15 =>
  some (q15, true))
  else (
  some (x1, false))

/-- strings.CutSuffix -/
noncomputable def mStringsCutSuffix (x1 : ByteArray) (x2 : ByteArray) : Option (ByteArray × Bool) :=
  (mStringsliteCutSuffix x1 x2).bind (unc2 fun x8 x9 =>
  some (x8, x9))

/-- internal/stringslite.IndexByte -/
noncomputable def mStringsliteIndexByte (x1 : ByteArray) (x2 : Int) : Option (Int) :=
  some (sFirst x1 x2)

/-- internal/stringslite.Index -/
noncomputable def mStringsliteIndex (x1 : ByteArray) (x2 : ByteArray) : Option (Int) :=
  (if (x2.size : Int) = 0 then (
  some true)
  else (
  some (sEq x2 x1))).bind (fun x20 =>
  if x20 = true then (
  some 0)
  else (
  if (x2.size : Int) = 1 then (
  (sIdx x2 0).bind fun x25 =>
  (mStringsliteIndexByte x1 x25).bind fun x27 =>
  some x27)
  else (
  if (x1.size : Int) ≤ (x2.size : Int) then (
  some (-1))
  else (
  none))))

/-- strings.Index -/
noncomputable def mStringsIndex (x1 : ByteArray) (x2 : ByteArray) : Option (Int) :=
  (mStringsliteIndex x1 x2).bind fun x6 =>
  some x6

noncomputable def mStringsCount_L40 (x2 : ByteArray) : (ByteArray × Int) → Option ((ByteArray × Int) ⊕ (Int)) := unc2 fun x59 x60 =>
  (mStringsIndex x59 x2).bind fun x61 =>
  if x61 = (-1) then (
  some (.inr x60))
  else (
  (chk (x60 + 1)).bind fun _ =>
  (chk (x61 + (x2.size : Int))).bind fun _ =>
  (sCut x59 (x61 + (x2.size : Int)) (x59.size : Int)).bind fun q66 =>
  some (.inl (q66, x60 + 1)))

/-- strings.Count -/
noncomputable def mStringsCount (x1 : ByteArray) (x2 : ByteArray) : Option (Int) :=
  if (x2.size : Int) = 0 then (
  none)
  else (
  if (x2.size : Int) = 1 then (
  (sIdx x2 0).bind fun x38 =>
  some (sCount x1 x38))
  else (
  loopM (mStringsCount_L40 x2) (x1, 0)))

noncomputable def mStringsGenSplit_L419 (x1 : ByteArray) (x2 : ByteArray) (x3 : Int) (x291 : Int) : (ByteArray × Int × (List ByteArray)) → Option ((ByteArray × Int × (List ByteArray)) ⊕ (ByteArray × Int × (List ByteArray))) := unc3 fun x490 x491 l492 =>
  if x491 < ((min x291 ((x1.size : Int) + 1)) - 1) then (
  (mStringsIndex x490 x2).bind fun x495 =>
  if x495 < 0 then (
  some (.inr (x490, x491, l492)))
  else (
  (chk (x495 + x3)).bind fun _ =>
  (sCut x490 0 (x495 + x3)).bind fun q499 =>
  (idx l492 x491).bind fun _ =>
  (chk (x495 + (x2.size : Int))).bind fun _ =>
  (sCut x490 (x495 + (x2.size : Int)) (x490.size : Int)).bind fun q520 =>
  (chk (x491 + 1)).bind fun _ =>
  some (.inl (q520, x491 + 1, put l492 x491 q499))))
  else (
  some (.inr (x490, x491, l492)))

/-- strings.genSplit -/
noncomputable def mStringsGenSplit (x1 : ByteArray) (x2 : ByteArray) (x3 : Int) (x4 : Int) : Option ((List ByteArray)) :=
  if x4 = 0 then (
  some [])
  else (
  if (sEq x2 (ByteArray.mk #[])) = true then (
  none)
  else (
  (if x4 < 0 then (
  (mStringsCount x1 x2).bind fun x294 =>
  (chk (x294 + 1)).bind fun _ =>
  some (x294 + 1))
  else (
  some x4)).bind (fun x291 =>
  (chk ((x1.size : Int) + 1)).bind fun _ =>
  (mkLen 16 (min x291 ((x1.size : Int) + 1))).bind fun m298 =>
  (chk ((min x291 ((x1.size : Int) + 1)) - 1)).bind fun _ =>
  (loopM (mStringsGenSplit_L419 x1 x2 x3 x291) (x1, 0, List.replicate m298 (ByteArray.empty : ByteArray))).bind (unc3 fun x414 x415 l416 =>
  (idx l416 x415).bind fun _ =>
  (chk (x415 + 1)).bind fun _ =>
  (cutS (put l416 x415 x414) 0 (x415 + 1)).bind fun l542 =>
  some l542))))

/-- strings.Split -/
noncomputable def mStringsSplit (x1 : ByteArray) (x2 : ByteArray) : Option ((List ByteArray)) :=
  (mStringsGenSplit x1 x2 0 (-1)).bind fun l17 =>
  some l17

noncomputable def mLineLines_L155 (l147 : (List ByteArray)) (k240 : Nat) : ((List (List ByteArray))) → Option ((List (List ByteArray))) := fun l239 =>
  (idx l147 (k240 : Int)).bind fun x243 =>
  (mStringsSplit x243 (ByteArray.mk #[32])).bind fun l259 =>
  (room 24 (l239.length + 1)).bind fun _ =>
  some (l239 ++ [l259])

/-- fishplate/line.Lines -/
noncomputable def mLineLines (x1 : ByteArray) : Option (Bool × (List (List ByteArray))) :=
  if (sEq x1 (ByteArray.mk #[])) = true then (
  some (true, []))
  else (
  (mStringsCutSuffix x1 (ByteArray.mk #[10])).bind (unc2 fun x144 x145 =>
  (mStringsSplit x144 (ByteArray.mk #[10])).bind fun l147 =>
  (forS (mLineLines_L155 l147) l147.length 0 ([] : (List (List ByteArray)))).bind (fun l239 =>
  some (x145, l239))))

noncomputable def mLineName_L75 (x1 : ByteArray) (k96 : Nat) : (Unit) → Option ((Unit) ⊕ (Bool)) := fun _ =>
  (idx (sBytes x1) (k96 : Int)).bind fun x100 =>
  (if x100 < 97 then (
  some true)
  else (
  some (decide (122 < x100)))).bind (fun x113 =>
  if x113 = true then (
  some (.inr false))
  else (
  some (.inl ())))

/-- fishplate/line.name -/
noncomputable def mLineName (x1 : ByteArray) : Option (Bool) :=
  (chk (x1.size : Int)).bind fun _ =>
  (forM (mLineName_L75 x1) ((sBytes x1).length) 0 ()).bind fun t => Sum.elim (fun _ =>
  (if 1 ≤ (x1.size : Int) then (
  some (decide ((x1.size : Int) ≤ 12)))
  else (
  some false)).bind (fun x122 =>
  some x122)) (fun q => some q) t

noncomputable def mSlicesIndex_L39 (l4 : (List ByteArray)) (x5 : ByteArray) (k54 : Nat) : (Unit) → Option ((Unit) ⊕ (Int)) := fun _ =>
  (idx l4 (k54 : Int)).bind fun x58 =>
  if (sEq x5 x58) = true then (
  some (.inr (k54 : Int)))
  else (
  some (.inl ()))

/-- slices.Index[[]string,string] -/
noncomputable def mSlicesIndex (l4 : (List ByteArray)) (x5 : ByteArray) : Option (Int) :=
  (forM (mSlicesIndex_L39 l4 x5) l4.length 0 ()).bind fun t => Sum.elim (fun _ =>
  some (-1)) (fun q => some q) t

/-- slices.Contains[[]string,string] -/
noncomputable def mSlicesContains (l4 : (List ByteArray)) (x5 : ByteArray) : Option (Bool) :=
  (mSlicesIndex l4 x5).bind fun x9 =>
  some (decide (0 ≤ x9))

/-- fishplate/line.ends -/
noncomputable def mLineEnds (x1 : Int) : Option (Int) :=
  if x1 = 1 then (
  some 2)
  else (
  if x1 = 2 then (
  some 3)
  else (
  if x1 = 3 then (
  some 4)
  else (
  some 0)))

/-- fishplate/line.within -/
noncomputable def mLineWithin (x1 : Int) (x2 : Int) (x3 : Int) : Option (Bool) :=
  (if x2 ≤ x1 then (
  some (decide (x1 ≤ x3)))
  else (
  some false)).bind (fun x14 =>
  some x14)

/-- fishplate/line.checkSection -/
noncomputable def mLineCheckSection (s1 : ApiSection) (x2 : Int) : Option (Int) :=
  (mLineEnds s1.Kind).bind fun x80 =>
  if x80 = 0 then (
  some 1)
  else (
  ((mLineWithin s1.Length 10 3000).bind fun x95 =>
  if x95 = true then (
  (mLineWithin s1.Grade (-40) 40).bind fun x98 =>
  if x98 = true then (
  (mLineWithin s1.Speed 300 6000).bind fun x101 =>
  some (!x101))
  else (
  some true))
  else (
  some true)).bind (fun x93 =>
  if x93 = true then (
  some 2)
  else (
  (if s1.Kind = 2 then (
  (mLineWithin s1.Slow 300 s1.Speed).bind fun x119 =>
  if x119 = true then (
  if s1.Kind = 1 then (
  (mLineWithin s1.Station 0 x2).bind fun x123 =>
  some (!x123))
  else (
  some false))
  else (
  some true))
  else (
  if s1.Kind = 1 then (
  (mLineWithin s1.Station 0 x2).bind fun x126 =>
  some (!x126))
  else (
  some false))).bind (fun x116 =>
  if x116 = true then (
  some 2)
  else (
  (if s1.Slow ≠ 0 then (
  if s1.Kind = 2 then (
  if s1.Station ≠ 0 then (
  if s1.Kind = 1 then (
  if s1.Grade ≠ 0 then (
  some (decide (s1.Kind = 3)))
  else (
  some false))
  else (
  some true))
  else (
  if s1.Grade ≠ 0 then (
  some (decide (s1.Kind = 3)))
  else (
  some false)))
  else (
  some true))
  else (
  if s1.Station ≠ 0 then (
  if s1.Kind = 1 then (
  if s1.Grade ≠ 0 then (
  some (decide (s1.Kind = 3)))
  else (
  some false))
  else (
  some true))
  else (
  if s1.Grade ≠ 0 then (
  some (decide (s1.Kind = 3)))
  else (
  some false)))).bind (fun x141 =>
  if x141 = true then (
  some 1)
  else (
  some 0)))))))

/-- fishplate/line.has -/
noncomputable def mLineHas (s1 : ApiNet) (s17 : LineEnd) : Option (Bool) :=
  ((chk ((s1.Sections.length : Int) - 1)).bind fun _ =>
  (mLineWithin s17.section_ 0 ((s1.Sections.length : Int) - 1)).bind fun x165 =>
  if x165 = true then (
  (idx s1.Sections s17.section_).bind fun x168 =>
  (mLineEnds x168.Kind).bind fun x178 =>
  (chk (x178 - 1)).bind fun _ =>
  (mLineWithin s17.end_ 0 (x178 - 1)).bind fun x181 =>
  some x181)
  else (
  some false)).bind (fun x143 =>
  some x143)

/-- cmp.isNaN[int] -/
noncomputable def mCmpIsNaN (x1 : Int) : Option (Bool) :=
  some (decide (x1 ≠ x1))

/-- cmp.Compare[int] -/
noncomputable def mCmpCompare (x1 : Int) (x2 : Int) : Option (Int) :=
  (mCmpIsNaN x1).bind fun x13 =>
  (mCmpIsNaN x2).bind fun x15 =>
  if x13 = true then (
  if x15 = true then (
  some 0)
  else (
  some (-1)))
  else (
  if x15 = true then (
  some 1)
  else (
  if x1 < x2 then (
  some (-1))
  else (
  if x2 < x1 then (
  some 1)
  else (
  some 0))))

noncomputable def mCmpOr_L38 (l4 : (List Int)) (k53 : Nat) : (Unit) → Option ((Unit) ⊕ (Int)) := fun _ =>
  (idx l4 (k53 : Int)).bind fun x57 =>
  if x57 ≠ 0 then (
  some (.inr x57))
  else (
  some (.inl ()))

/-- cmp.Or[int] -/
noncomputable def mCmpOr (l4 : (List Int)) : Option (Int) :=
  (forM (mCmpOr_L38 l4) l4.length 0 ()).bind fun t => Sum.elim (fun _ =>
  some 0) (fun q => some q) t

noncomputable def mLineCheckLinks_L643 (s1 : ApiNet) (k1051 : Nat) : ((List (LineEnd × Bool))) → Option (((List (LineEnd × Bool))) ⊕ (Int)) := fun l1050 =>
  (idx s1.Links (k1051 : Int)).bind fun x1055 =>
  (some ()).bind (fun _ =>
  ((mLineHas s1 (⟨x1055.A, x1055.EndA⟩ : LineEnd)).bind fun x1088 =>
  if x1088 = true then (
  (mLineHas s1 (⟨x1055.B, x1055.EndB⟩ : LineEnd)).bind fun x1091 =>
  some (!x1091))
  else (
  some true)).bind (fun x1086 =>
  if x1086 = true then (
  some (.inr 3))
  else (
  if x1055.A = x1055.B then (
  some (.inr 1))
  else (
  if x1055.B < x1055.A then (
  some (.inr 5))
  else (
  (if 0 < (k1051 : Int) then (
  (chk ((k1051 : Int) - 1)).bind fun _ =>
  (idx s1.Links ((k1051 : Int) - 1)).bind fun x1159 =>
  ((mCmpCompare x1159.A x1055.A).bind fun x1201 =>
  (mCmpCompare x1159.EndA x1055.EndA).bind fun x1203 =>
  (mCmpOr [x1201, x1203]).bind fun x1208 =>
  some (decide (0 ≤ x1208))).bind (fun x1190 =>
  if x1190 = true then (
  some (.inr (.inr 5)))
  else (
  some (.inl ()))))
  else (
  some (.inl ()))).bind fun t => Sum.elim (fun _ =>
  ((some (mgetD l1050 (⟨x1055.A, x1055.EndA⟩ : LineEnd) false)).bind fun x1234 =>
  if x1234 = true then (
  some true)
  else (
  (some (mgetD l1050 (⟨x1055.B, x1055.EndB⟩ : LineEnd) false)).bind fun x1241 =>
  some x1241)).bind (fun x1229 =>
  if x1229 = true then (
  some (.inr 6))
  else (
  some (.inl (mput (mput l1050 (⟨x1055.A, x1055.EndA⟩ : LineEnd) true) (⟨x1055.B, x1055.EndB⟩ : LineEnd) true))))) (fun r1258 => some r1258) t)))))

/-- fishplate/line.checkLinks -/
noncomputable def mLineCheckLinks (s1 : ApiNet) : Option (Int) :=
  (forM (mLineCheckLinks_L643 s1) s1.Links.length 0 (([] : (List (LineEnd × Bool))) : (List (LineEnd × Bool)))).bind fun t => Sum.elim (fun _ =>
  some 0) (fun q => some q) t

noncomputable def mLineJoined_L88 (s1 : ApiNet) (s17 : LineEnd) (k117 : Nat) : (Unit) → Option ((Unit) ⊕ (Int × Int × Bool)) := fun _ =>
  (idx s1.Links (k117 : Int)).bind fun x121 =>
  (if x121.A = s17.section_ then (
  some (decide (x121.EndA = s17.end_)))
  else (
  some false)).bind (fun x135 =>
  if x135 = true then (
  some (.inr (x121.B, x121.EndB, true)))
  else (
  (if x121.B = s17.section_ then (
  some (decide (x121.EndB = s17.end_)))
  else (
  some false)).bind (fun x143 =>
  if x143 = true then (
  some (.inr (x121.A, x121.EndA, true)))
  else (
  some (.inl ())))))

/-- fishplate/line.joined -/
noncomputable def mLineJoined (s1 : ApiNet) (s17 : LineEnd) : Option (Int × Int × Bool) :=
  (forM (mLineJoined_L88 s1 s17) s1.Links.length 0 ()).bind fun t => Sum.elim (fun _ =>
  some (0, 0, false)) (fun q => some q) t

noncomputable def mLineCheckSignals_L238 (s1 : ApiNet) (k345 : Nat) : (Unit) → Option ((Unit) ⊕ (Int)) := fun _ =>
  (idx s1.Signals (k345 : Int)).bind fun x349 =>
  (mLineHas s1 (⟨x349.Section, x349.End⟩ : LineEnd)).bind fun x361 =>
  if x361 = true then (
  (mLineJoined s1 (⟨x349.Section, x349.End⟩ : LineEnd)).bind (unc3 fun _ _ x367 =>
  (if x367 = true then (
  (idx s1.Sections x349.Section).bind fun x388 =>
  some (decide (x388.Kind ≠ 1)))
  else (
  some true)).bind (fun x385 =>
  if x385 = true then (
  some (.inr 1))
  else (
  if 0 < (k345 : Int) then (
  (chk ((k345 : Int) - 1)).bind fun _ =>
  (idx s1.Signals ((k345 : Int) - 1)).bind fun x402 =>
  ((mCmpCompare x402.Section x349.Section).bind fun x444 =>
  (mCmpCompare x402.End x349.End).bind fun x446 =>
  (mCmpOr [x444, x446]).bind fun x451 =>
  some (decide (0 ≤ x451))).bind (fun x433 =>
  if x433 = true then (
  some (.inr 5))
  else (
  some (.inl ()))))
  else (
  some (.inl ()))))))
  else (
  some (.inr 3))

/-- fishplate/line.checkSignals -/
noncomputable def mLineCheckSignals (s1 : ApiNet) : Option (Int) :=
  (forM (mLineCheckSignals_L238 s1) s1.Signals.length 0 ()).bind fun t => Sum.elim (fun _ =>
  some 0) (fun q => some q) t

noncomputable def mLineCheckGates_L197 (s1 : ApiNet) (k283 : Nat) : (Unit) → Option ((Unit) ⊕ (Int)) := fun _ =>
  (idx s1.Gates (k283 : Int)).bind fun x287 =>
  (chk ((s1.Sections.length : Int) - 1)).bind fun _ =>
  (mLineWithin x287.Section 0 ((s1.Sections.length : Int) - 1)).bind fun x299 =>
  if x299 = true then (
  (idx s1.Sections x287.Section).bind fun x303 =>
  if x303.Kind ≠ 1 then (
  some (.inr 1))
  else (
  (mLineWithin x287.Close 1 12).bind fun x315 =>
  if x315 = true then (
  (if 0 < (k283 : Int) then (
  (chk ((k283 : Int) - 1)).bind fun _ =>
  (idx s1.Gates ((k283 : Int) - 1)).bind fun x361 =>
  some (decide (x287.Section ≤ x361.Section)))
  else (
  some false)).bind (fun x345 =>
  if x345 = true then (
  some (.inr 5))
  else (
  some (.inl ()))))
  else (
  some (.inr 2))))
  else (
  some (.inr 3))

/-- fishplate/line.checkGates -/
noncomputable def mLineCheckGates (s1 : ApiNet) : Option (Int) :=
  (forM (mLineCheckGates_L197 s1) s1.Gates.length 0 ()).bind fun t => Sum.elim (fun _ =>
  some 0) (fun q => some q) t

noncomputable def mLineCheck_L305 (s1 : ApiNet) (k320 : Nat) : (Unit) → Option ((Unit) ⊕ (Int)) := fun _ =>
  if (k320 : Int) = (0 : Int) then (
  (mLineCheckLinks s1).bind fun x325 =>
  if x325 ≠ 0 then (
  some (.inr x325))
  else (
  some (.inl ())))
  else (
  if (k320 : Int) = (1 : Int) then (
  (mLineCheckSignals s1).bind fun x330 =>
  if x330 ≠ 0 then (
  some (.inr x330))
  else (
  some (.inl ())))
  else (
  if (k320 : Int) = (2 : Int) then (
  (mLineCheckGates s1).bind fun x335 =>
  if x335 ≠ 0 then (
  some (.inr x335))
  else (
  some (.inl ())))
  else (
  none)))

noncomputable def mLineCheck_L267 (s1 : ApiNet) (k285 : Nat) : (Unit) → Option ((Unit) ⊕ (Int)) := fun _ =>
  (idx s1.Sections (k285 : Int)).bind fun x289 =>
  (mLineCheckSection x289 (s1.Stations.length : Int)).bind fun x300 =>
  if x300 ≠ 0 then (
  some (.inr x300))
  else (
  some (.inl ()))

noncomputable def mLineCheck_L194 (s1 : ApiNet) (k229 : Nat) : (Unit) → Option ((Unit) ⊕ (Int)) := fun _ =>
  (idx s1.Stations (k229 : Int)).bind fun x233 =>
  (mLineName x233).bind fun x243 =>
  if x243 = true then (
  (cutS s1.Stations 0 (k229 : Int)).bind fun l247 =>
  (mSlicesContains l247 x233).bind fun x262 =>
  if x262 = true then (
  some (.inr 6))
  else (
  some (.inl ())))
  else (
  some (.inr 1))

/-- fishplate/line.Check -/
noncomputable def mLineCheck (s1 : ApiNet) : Option (Int) :=
  if (s1.Sections.length : Int) = 0 then (
  some 1)
  else (
  (if 12 < (s1.Stations.length : Int) then (
  some true)
  else (
  if 60 < (s1.Sections.length : Int) then (
  some true)
  else (
  if 90 < (s1.Links.length : Int) then (
  some true)
  else (
  if 40 < (s1.Signals.length : Int) then (
  some true)
  else (
  some (decide (8 < (s1.Gates.length : Int)))))))).bind (fun x187 =>
  if x187 = true then (
  some 4)
  else (
  (forM (mLineCheck_L194 s1) s1.Stations.length 0 ()).bind fun t => Sum.elim (fun _ =>
  (forM (mLineCheck_L267 s1) s1.Sections.length 0 ()).bind fun t => Sum.elim (fun _ =>
  (forM (mLineCheck_L305 s1) 3 0 ()).bind fun t => Sum.elim (fun _ =>
  some 0) (fun q => some q) t) (fun q => some q) t) (fun q => some q) t)))

noncomputable def mLineRead_L104 (l94 : (List (List ByteArray))) (k127 : Nat) : (Unit) → Option ((Unit) ⊕ ((List ByteArray) × (List ApiSection) × (List ApiLink) × (List ApiSignal) × (List ApiGate) × Int)) := fun _ =>
  (idx l94 (k127 : Int)).bind fun _ =>
  none

/-- fishplate/line.Read -/
noncomputable def mLineRead (x1 : ByteArray) : Option ((List ByteArray) × (List ApiSection) × (List ApiLink) × (List ApiSignal) × (List ApiGate) × Int) :=
  if 20000 < (x1.size : Int) then (
  some ([], [], [], [], [], 4))
  else (
  (mLineLines x1).bind (unc2 fun x93 l94 =>
  if x93 = true then (
  (forM (mLineRead_L104 l94) l94.length 0 ()).bind fun t => Sum.elim (fun _ =>
  (mLineCheck (⟨[], [], [], [], []⟩ : ApiNet)).bind fun x151 =>
  if x151 ≠ 0 then (
  some ([], [], [], [], [], x151))
  else (
  some ([], [], [], [], [], 0))) (fun q => some q) t)
  else (
  some ([], [], [], [], [], 10))))

/-- fishplate/fishkeep1.awakeLine -/
noncomputable def mFishkeep1AwakeLine : Option (Bool) :=
  (mLineRead (ByteArray.mk #[120])).bind (unc6 fun _ _ _ _ _ x37 =>
  some (decide (x37 ≠ 0)))

/-- fishplate/line.outs -/
noncomputable def mLineOuts (x1 : Int) (x2 : Int) : Option ((List Int)) :=
  (if x1 = 2 then (
  some (decide (x2 = 0)))
  else (
  some false)).bind (fun x42 =>
  if x42 = true then (
  some [1, 2])
  else (
  if x1 = 2 then (
  some [0])
  else (
  some [xorI .i64 x2 1])))

/-- fishplate/line.walk -/
noncomputable def mLineWalk (s1 : ApiNet) (s17 : LineEnd) : Option ((List ApiStep)) :=
  (mLineJoined s1 s17).bind (unc3 fun x y q => if q = true then (idx s1.Sections x).bind fun p => (mLineOuts p.Kind y).bind fun o => some (o.map fun k => (⟨x, y, k⟩ : ApiStep)) else some [])

/-- fishplate/line.stands-1 -/
noncomputable def mLineStands_1 (s2 : ApiStep) (x3 : Int) : Option (Bool) :=
  some (decide (s2.Section = x3))

noncomputable def mSlicesIndexFunc_L48 (l5 : (List ApiStep)) (x6 : Int) (k67 : Nat) : (Unit) → Option ((Unit) ⊕ (Int)) := fun _ =>
  (idx l5 (k67 : Int)).bind fun x71 =>
  (mLineStands_1 x71 x6).bind fun x81 =>
  if x81 = true then (
  some (.inr (k67 : Int)))
  else (
  some (.inl ()))

/-- slices.IndexFunc[[]fishplate/api.Step,fishplate/api.Step] -/
noncomputable def mSlicesIndexFunc (l5 : (List ApiStep)) (x6 : Int) : Option (Int) :=
  (forM (mSlicesIndexFunc_L48 l5 x6) l5.length 0 ()).bind fun t => Sum.elim (fun _ =>
  some (-1)) (fun q => some q) t

/-- slices.ContainsFunc[[]fishplate/api.Step,fishplate/api.Step] -/
noncomputable def mSlicesContainsFunc (l5 : (List ApiStep)) (x6 : Int) : Option (Bool) :=
  (mSlicesIndexFunc l5 x6).bind fun x12 =>
  some (decide (0 ≤ x12))

/-- fishplate/line.stands -/
noncomputable def mLineStands (l4 : (List ApiStep)) (x5 : Int) : Option (Bool) :=
  (mSlicesContainsFunc l4 x5).bind fun x13 =>
  some x13

/-- (*fishplate/line.finder).count -/
noncomputable def mLineFinderCount (_l10 : (List ByteArray)) (_l14 : (List ApiSection)) (_l18 : (List ApiLink)) (_l22 : (List ApiSignal)) (_l26 : (List ApiGate)) (x27 : Int) (x28 : Bool) (_l29 : (List ApiRoute)) : Option (Int × Bool) :=
  (chk (x27 + 1)).bind fun _ =>
  if x28 = true then (
  some (x27 + 1, true))
  else (
  some (x27 + 1, decide (80 < (x27 + 1))))

/-- slices.Clone[[]fishplate/api.Step,fishplate/api.Step] -/
noncomputable def mSlicesClone (l4 : (List ApiStep)) : Option ((List ApiStep)) :=
  (room 24 l4.length).bind fun _ => some l4

noncomputable def mSlicesIndex_2_L61 (l4 : (List ApiSignal)) (s5 : ApiSignal) (k86 : Nat) : (Unit) → Option ((Unit) ⊕ (Int)) := fun _ =>
  (idx l4 (k86 : Int)).bind fun x100 =>
  if s5.Section = x100.Section ∧ s5.End = x100.End then (
  some (.inr (k86 : Int)))
  else (
  some (.inl ()))

/-- slices.Index[[]fishplate/api.Signal,fishplate/api.Signal] -/
noncomputable def mSlicesIndex_2 (l4 : (List ApiSignal)) (s5 : ApiSignal) : Option (Int) :=
  (forM (mSlicesIndex_2_L61 l4 s5) l4.length 0 ()).bind fun t => Sum.elim (fun _ =>
  some (-1)) (fun q => some q) t

/-- fishplate/line.signal -/
noncomputable def mLineSignal (s1 : ApiNet) (s17 : LineEnd) : Option (Int) :=
  (mSlicesIndex_2 s1.Signals (⟨s17.section_, s17.end_⟩ : ApiSignal)).bind fun x25 =>
  some x25

noncomputable def mLineFinderGrow_2_L1422 (l17 : (List ByteArray)) (l21 : (List ApiSection)) (l25 : (List ApiLink)) (l29 : (List ApiSignal)) (l33 : (List ApiGate)) (l36 : (List ApiStep)) (x12 : Int) (x1386 : Int) (rcmLineFinderGrow_2 : (Int) → (LineEnd) → ((List ByteArray)) → ((List ApiSection)) → ((List ApiLink)) → ((List ApiSignal)) → ((List ApiGate)) → (Int) → (Bool) → ((List ApiStep)) → ((List ApiRoute)) → Option (Int × Bool × (List ApiRoute))) (x1827 : ApiStep) : (Int × Bool × (List ApiRoute)) → Option ((Int × Bool × (List ApiRoute)) ⊕ (Int × Bool × (List ApiRoute))) := unc3 fun x1817 x1818 l1819 =>
  if x1818 = true then (
  some (.inr (x1817, x1818, l1819)))
  else (
  (if x1827.Section = x1386 then (
  some true)
  else (
  (mLineStands l36 x1827.Section).bind fun x1842 =>
  some x1842)).bind (fun x1839 =>
  if x1839 = true then (
  (mLineFinderCount l17 l21 l25 l29 l33 x1817 x1818 l1819).bind (unc2 fun x1845 x1846 =>
  some (.inr (x1845, x1846, l1819))))
  else (
  ((mSlicesClone l36).bind fun l1904 =>
  (room 24 (l1904.length + 1)).bind fun _ =>
  some (l1904 ++ [x1827])).bind (fun l1887 =>
  if 16 < (l1887.length : Int) then (
  some (.inr (x1817, true, l1819)))
  else (
  (mLineSignal (⟨l17, l21, l25, l29, l33⟩ : ApiNet) (⟨x1827.Section, x1827.Out⟩ : LineEnd)).bind fun x1924 =>
  ((mLineJoined (⟨l17, l21, l25, l29, l33⟩ : ApiNet) (⟨x1827.Section, x1827.Out⟩ : LineEnd)).bind (unc3 fun _ _ x1953 =>
  some x1953)).bind (fun x1942 =>
  (if x1942 = true then (
  some (decide (x1924 < 0)))
  else (
  some false)).bind (fun x1961 =>
  if x1961 = true then (
  (rcmLineFinderGrow_2 x12 (⟨x1827.Section, x1827.Out⟩ : LineEnd) l17 l21 l25 l29 l33 x1817 x1818 l1887 l1819).bind (unc3 fun x1965 x1966 l1967 =>
  some (.inl (x1965, x1966, l1967))))
  else (
  ((room 40 (l1819.length + 1)).bind fun _ =>
  some (l1819 ++ [(⟨x12, x1924, l1887⟩ : ApiRoute)])).bind (fun l2000 =>
  (mLineFinderCount l17 l21 l25 l29 l33 x1817 x1818 l2000).bind (unc2 fun x2020 x2021 =>
  some (.inl (x2020, x2021, l2000))))))))))))

/-- (*fishplate/line.finder).grow -/
noncomputable def mLineFinderGrow_2 : Nat → (Int) → (LineEnd) → ((List ByteArray)) → ((List ApiSection)) → ((List ApiLink)) → ((List ApiSignal)) → ((List ApiGate)) → (Int) → (Bool) → ((List ApiStep)) → ((List ApiRoute)) → Option (Int × Bool × (List ApiRoute))
  | 0 => fun _ _ _ _ _ _ _ _ _ _ _ => none
  | N + 1 => fun x12 s13 l17 l21 l25 l29 l33 x34 x35 l36 l38 =>
  ((idx l29 x12).bind fun x1399 =>
  some x1399.Section).bind (fun x1386 =>
  (mLineWalk (⟨l17, l21, l25, l29, l33⟩ : ApiNet) s13).bind fun l1416 =>
  (forL (mLineFinderGrow_2_L1422 l17 l21 l25 l29 l33 l36 x12 x1386 (mLineFinderGrow_2 N)) l1416 (x34, x35, l38)).bind fun t => Sum.elim (unc3 fun x1817 x1818 l1819 =>
  some (x1817, x1818, l1819)) (fun q => some q) t)

noncomputable def mLineFinderGrow_L777 (x7 : Int) (l11 : (List ApiStep)) (l16 : (List ByteArray)) (l20 : (List ApiSection)) (l24 : (List ApiLink)) (l28 : (List ApiSignal)) (l32 : (List ApiGate)) (x741 : Int) (x1182 : ApiStep) : (Int × Bool × (List ApiRoute)) → Option ((Int × Bool × (List ApiRoute)) ⊕ (Int × Bool × (List ApiRoute))) := unc3 fun x1172 x1173 l1174 =>
  if x1173 = true then (
  some (.inr (x1172, x1173, l1174)))
  else (
  (if x1182.Section = x741 then (
  some true)
  else (
  (mLineStands l11 x1182.Section).bind fun x1197 =>
  some x1197)).bind (fun x1194 =>
  if x1194 = true then (
  (mLineFinderCount l16 l20 l24 l28 l32 x1172 x1173 l1174).bind (unc2 fun x1200 x1201 =>
  some (.inr (x1200, x1201, l1174))))
  else (
  ((mSlicesClone l11).bind fun l1259 =>
  (room 24 (l1259.length + 1)).bind fun _ =>
  some (l1259 ++ [x1182])).bind (fun l1242 =>
  if 16 < (l1242.length : Int) then (
  some (.inr (x1172, true, l1174)))
  else (
  (mLineSignal (⟨l16, l20, l24, l28, l32⟩ : ApiNet) (⟨x1182.Section, x1182.Out⟩ : LineEnd)).bind fun x1279 =>
  ((mLineJoined (⟨l16, l20, l24, l28, l32⟩ : ApiNet) (⟨x1182.Section, x1182.Out⟩ : LineEnd)).bind (unc3 fun _ _ x1308 =>
  some x1308)).bind (fun x1297 =>
  (if x1297 = true then (
  some (decide (x1279 < 0)))
  else (
  some false)).bind (fun x1316 =>
  if x1316 = true then (
  (lim (fun N => mLineFinderGrow_2 N x7 (⟨x1182.Section, x1182.Out⟩ : LineEnd) l16 l20 l24 l28 l32 x1172 x1173 l1242 l1174)).bind (unc3 fun x1320 x1321 l1322 =>
  some (.inl (x1320, x1321, l1322))))
  else (
  ((room 40 (l1174.length + 1)).bind fun _ =>
  some (l1174 ++ [(⟨x7, x1279, l1242⟩ : ApiRoute)])).bind (fun l1355 =>
  (mLineFinderCount l16 l20 l24 l28 l32 x1172 x1173 l1355).bind (unc2 fun x1375 x1376 =>
  some (.inl (x1375, x1376, l1355))))))))))))

/-- (*fishplate/line.finder).grow -/
noncomputable def mLineFinderGrow (x7 : Int) (l11 : (List ApiStep)) (s12 : LineEnd) (l16 : (List ByteArray)) (l20 : (List ApiSection)) (l24 : (List ApiLink)) (l28 : (List ApiSignal)) (l32 : (List ApiGate)) (x33 : Int) (x34 : Bool) (l35 : (List ApiRoute)) : Option (Int × Bool × (List ApiRoute)) :=
  ((idx l28 x7).bind fun x754 =>
  some x754.Section).bind (fun x741 =>
  (mLineWalk (⟨l16, l20, l24, l28, l32⟩ : ApiNet) s12).bind fun l771 =>
  (forL (mLineFinderGrow_L777 x7 l11 l16 l20 l24 l28 l32 x741) l771 (x33, x34, l35)).bind fun t => Sum.elim (unc3 fun x1172 x1173 l1174 =>
  some (x1172, x1173, l1174)) (fun q => some q) t)

noncomputable def mLineRoutes_2_L121 (s1 : ApiNet) (k187 : Nat) : (Int × Bool × (List ApiRoute)) → Option (Int × Bool × (List ApiRoute)) := unc3 fun x183 x184 l185 =>
  (idx s1.Signals (k187 : Int)).bind fun x190 =>
  (mLineFinderGrow (k187 : Int) [] (⟨x190.Section, x190.End⟩ : LineEnd) s1.Stations s1.Sections s1.Links s1.Signals s1.Gates x183 x184 l185).bind (unc3 fun x201 x202 l203 =>
  some (x201, x202, l203))

/-- fishplate/line.routes -/
noncomputable def mLineRoutes_2 (s1 : ApiNet) : Option (Int × (List ApiRoute)) :=
  (forS (mLineRoutes_2_L121 s1) s1.Signals.length 0 ((0, false, []) : Int × Bool × (List ApiRoute))).bind (unc3 fun _ x184 l185 =>
  if x184 = true then (
  some (4, []))
  else (
  some (0, l185)))

/-- fishplate/line.Routes -/
noncomputable def mLineRoutes (s1 : ApiNet) : Option (Int × (List ApiRoute)) :=
  (mLineCheck s1).bind fun x40 =>
  if x40 ≠ 0 then (
  some (x40, []))
  else (
  (mLineRoutes_2 s1).bind (unc2 fun x43 l44 =>
  some (x43, l44)))

/-- fishplate/line.platform -/
noncomputable def mLinePlatform (s1 : ApiNet) (x17 : Int) : Option (Bool) :=
  ((chk ((s1.Sections.length : Int) - 1)).bind fun _ =>
  (mLineWithin x17 0 ((s1.Sections.length : Int) - 1)).bind fun x72 =>
  if x72 = true then (
  (idx s1.Sections x17).bind fun x75 =>
  some (decide (x75.Station ≠ 0)))
  else (
  some false)).bind (fun x69 =>
  some x69)

noncomputable def mLineOverlap_L1918  (x1927 : ApiStep) : (Unit) → Option ((Unit) ⊕ (Int × Int × Int × Bool)) := fun _ =>
  some (.inr (x1927.Section, x1927.In, x1927.Out, true))

noncomputable def mLineOverlap_L1575 (s1 : ApiNet) (s17 : ApiRoute) : (Int × Int × Int × (List ApiStep)) → Option ((Int × Int × Int × (List ApiStep)) ⊕ ((List ApiStep))) := unc4 fun x1877 x1878 x1879 l1880 =>
  if x1877 < 50 then (
  ((mLineWalk s1 (⟨x1878, x1879⟩ : LineEnd)).bind fun l1912 =>
  (forL mLineOverlap_L1918 l1912 ()).bind fun t => Sum.elim (fun _ =>
  some (0, 0, 0, false)) (fun q => some q) t).bind (unc4 fun x1907 x1908 x1909 x1910 =>
  (if x1910 = true then (
  (mLineStands s17.Steps x1907).bind fun x1989 =>
  if x1989 = true then (
  some true)
  else (
  (mLineStands l1880 x1907).bind fun x1992 =>
  if x1992 = true then (
  some true)
  else (
  (idx s1.Signals s17.From).bind fun x1995 =>
  some (decide (x1907 = x1995.Section)))))
  else (
  some true)).bind (fun x1969 =>
  if x1969 = true then (
  some (.inr l1880))
  else (
  (room 24 (l1880.length + 1)).bind fun _ =>
  (idx s1.Sections x1907).bind fun x2012 =>
  (chk (x1877 + x2012.Length)).bind fun _ =>
  some (.inl (x1877 + x2012.Length, x1907, x1909, l1880 ++ [(⟨x1907, x1908, x1909⟩ : ApiStep)]))))))
  else (
  some (.inr l1880))

/-- fishplate/line.overlap -/
noncomputable def mLineOverlap (s1 : ApiNet) (s17 : ApiRoute) : Option ((List ApiStep)) :=
  if s17.To < 0 then (
  some [])
  else (
  ((idx s1.Signals s17.To).bind fun x1097 =>
  (idx s1.Signals s17.To).bind fun x1107 =>
  some (x1097.Section, x1107.End)).bind (unc2 fun x1073 x1074 =>
  (loopM (mLineOverlap_L1575 s1 s17) ((0, x1073, x1074, []) : Int × Int × Int × (List ApiStep))).bind (fun l1573 =>
  some l1573)))

/-- fishplate/line.position -/
noncomputable def mLinePosition (s1 : ApiNet) (s17 : ApiStep) : Option (Int) :=
  (idx s1.Sections s17.Section).bind fun x34 =>
  if x34.Kind = 2 then (
  some (max s17.In s17.Out))
  else (
  some 0)

/-- (*fishplate/line.looker).need -/
noncomputable def mLineLookerNeed (s16 : ApiNeed) (_l20 : (List ByteArray)) (_l24 : (List ApiSection)) (_l28 : (List ApiLink)) (_l32 : (List ApiSignal)) (_l36 : (List ApiGate)) (_x37 : Int) (_x38 : Int) (_l42 : (List ApiStep)) (_l43 : (List ApiStep)) (l44 : (List ApiNeed)) (l46 : (List (ApiNeed × Bool))) : Option ((List ApiNeed) × (List (ApiNeed × Bool))) :=
  (some (mgetD l46 s16 false)).bind fun x100 =>
  if x100 = true then (
  some (l44, l46))
  else (
  (room 32 (l44.length + 1)).bind fun _ =>
  some (l44 ++ [s16], mput l46 s16 true))

/-- (*fishplate/line.looker).flank-1 -/
noncomputable def mLineLookerFlank_1 (s3 : ApiNeed) (x4 : Int) (x5 : Int) : Option (Bool) :=
  (if s3.Kind = 3 then (
  if s3.Place = x4 then (
  some (decide (s3.Position = x5)))
  else (
  some false))
  else (
  some false)).bind (fun x21 =>
  some x21)

noncomputable def mSlicesIndexFunc_2_L65 (x8 : Int) (x9 : Int) (l10 : (List ApiNeed)) (k90 : Nat) : (Unit) → Option ((Unit) ⊕ (Int)) := fun _ =>
  (idx l10 (k90 : Int)).bind fun x94 =>
  (mLineLookerFlank_1 x94 x8 x9).bind fun x110 =>
  if x110 = true then (
  some (.inr (k90 : Int)))
  else (
  some (.inl ()))

/-- slices.IndexFunc[[]fishplate/api.Need,fishplate/api.Need] -/
noncomputable def mSlicesIndexFunc_2 (x8 : Int) (x9 : Int) (l10 : (List ApiNeed)) : Option (Int) :=
  (forM (mSlicesIndexFunc_2_L65 x8 x9 l10) l10.length 0 ()).bind fun t => Sum.elim (fun _ =>
  some (-1)) (fun q => some q) t

/-- slices.ContainsFunc[[]fishplate/api.Need,fishplate/api.Need] -/
noncomputable def mSlicesContainsFunc_2 (x8 : Int) (x9 : Int) (l10 : (List ApiNeed)) : Option (Bool) :=
  (mSlicesIndexFunc_2 x8 x9 l10).bind fun x17 =>
  some (decide (0 ≤ x17))

/-- (*fishplate/line.looker).flank -/
noncomputable def mLineLookerFlank (x16 : Int) (x17 : Int) (_l21 : (List ByteArray)) (_l25 : (List ApiSection)) (_l29 : (List ApiLink)) (_l33 : (List ApiSignal)) (_l37 : (List ApiGate)) (_x38 : Int) (_x39 : Int) (_l43 : (List ApiStep)) (_l44 : (List ApiStep)) (l45 : (List ApiNeed)) (_l47 : (List (ApiNeed × Bool))) : Option (Bool) :=
  (mSlicesContainsFunc_2 x16 x17 l45).bind fun x57 =>
  some x57

noncomputable def mLineLookerLook_1_L1139 (l25 : (List ByteArray)) (l29 : (List ApiSection)) (l33 : (List ApiLink)) (l37 : (List ApiSignal)) (l41 : (List ApiGate)) (l47 : (List ApiStep)) (l48 : (List ApiStep)) (x20 : Int) (x21 : Int) (x42 : Int) (x43 : Int) (x847 : Int) (l1132 : (List Int)) (rcmLineLookerLook_1 : (LineEnd) → (Int) → (Int) → ((List ByteArray)) → ((List ApiSection)) → ((List ApiLink)) → ((List ApiSignal)) → ((List ApiGate)) → (Int) → (Int) → ((List ApiStep)) → ((List ApiStep)) → ((List ApiNeed)) → ((List (ApiNeed × Bool))) → Option ((List ApiNeed) × (List (ApiNeed × Bool)))) (k1215 : Nat) : ((List ApiNeed) × (List (ApiNeed × Bool))) → Option ((List ApiNeed) × (List (ApiNeed × Bool))) := unc2 fun l1212 l1214 =>
  (idx l1132 (k1215 : Int)).bind fun x1218 =>
  (chk (x20 + 1)).bind fun _ =>
  (rcmLineLookerLook_1 (⟨x847, x1218⟩ : LineEnd) (x20 + 1) x21 l25 l29 l33 l37 l41 x42 x43 l47 l48 l1212 l1214).bind (unc2 fun l1229 l1230 =>
  some (l1229, l1230))

/-- (*fishplate/line.looker).look-1 -/
noncomputable def mLineLookerLook_1 : Nat → (LineEnd) → (Int) → (Int) → ((List ByteArray)) → ((List ApiSection)) → ((List ApiLink)) → ((List ApiSignal)) → ((List ApiGate)) → (Int) → (Int) → ((List ApiStep)) → ((List ApiStep)) → ((List ApiNeed)) → ((List (ApiNeed × Bool))) → Option ((List ApiNeed) × (List (ApiNeed × Bool)))
  | 0 => fun _ _ _ _ _ _ _ _ _ _ _ _ _ _ => none
  | N + 1 => fun s19 x20 x21 l25 l29 l33 l37 l41 x42 x43 l47 l48 l49 l51 =>
  ((mLineJoined (⟨l25, l29, l33, l37, l41⟩ : ApiNet) s19).bind (unc3 fun x857 x858 x859 =>
  some (x859, x857, x858))).bind (unc3 fun x846 x847 x848 =>
  (if x846 = true then (
  if x20 = 8 then (
  some true)
  else (
  (mLineStands l47 x847).bind fun x891 =>
  if x891 = true then (
  some true)
  else (
  (mLineStands l48 x847).bind fun x894 =>
  some x894)))
  else (
  some true)).bind (fun x880 =>
  if x880 = true then (
  some (l49, l51))
  else (
  (idx l29 x847).bind fun x909 =>
  ((if x909.Kind = 2 then (
  some (decide (0 < x848)))
  else (
  some false)).bind (fun x1029 =>
  if x1029 = true then (
  ((mLineLookerFlank x847 x848 l25 l29 l33 l37 l41 x42 x43 l47 l48 l49 l51).bind fun x1065 =>
  if x1065 = true then (
  some (l49, l51))
  else (
  (chk (3 - x848)).bind fun _ =>
  (mLineLookerNeed (⟨3, x847, 3 - x848, x21⟩ : ApiNeed) l25 l29 l33 l37 l41 x42 x43 l47 l48 l49 l51).bind (unc2 fun l1071 l1072 =>
  some (l1071, l1072)))).bind (unc2 fun l1061 l1063 =>
  some (.inr (l1061, l1063))))
  else (
  if x909.Kind = 1 then (
  (mLineSignal (⟨l25, l29, l33, l37, l41⟩ : ApiNet) (⟨x847, x848⟩ : LineEnd)).bind fun x1087 =>
  if 0 ≤ x1087 then (
  (if x1087 ≠ x42 then (
  (mLineLookerNeed (⟨4, x1087, 0, x21⟩ : ApiNeed) l25 l29 l33 l37 l41 x42 x43 l47 l48 l49 l51).bind (unc2 fun l1118 l1119 =>
  some (l1118, l1119)))
  else (
  some (l49, l51))).bind (unc2 fun l1113 l1115 =>
  some (.inr (l1113, l1115))))
  else (
  some (.inl ())))
  else (
  some (.inl ()))))).bind fun t => Sum.elim (fun _ =>
  (mLineOuts x909.Kind x848).bind fun l1132 =>
  (forS (mLineLookerLook_1_L1139 l25 l29 l33 l37 l41 l47 l48 x20 x21 x42 x43 x847 l1132 (mLineLookerLook_1 N)) l1132.length 0 (l49, l51)).bind (unc2 fun l1212 l1214 =>
  some (l1212, l1214))) (fun r1242 => some r1242) t)))

noncomputable def mLineLookerLook_L306 (l20 : (List ByteArray)) (l24 : (List ApiSection)) (l28 : (List ApiLink)) (l32 : (List ApiSignal)) (l36 : (List ApiGate)) (l42 : (List ApiStep)) (l43 : (List ApiStep)) (x16 : Int) (x37 : Int) (x38 : Int) (x256 : Int) (x257 : Int) (x258 : Int) (k374 : Nat) : ((List ApiNeed) × (List (ApiNeed × Bool))) → Option ((List ApiNeed) × (List (ApiNeed × Bool))) := unc2 fun l371 l373 =>
  (if (k374 : Int) ≠ x257 then (
  some (decide ((k374 : Int) ≠ x258)))
  else (
  some false)).bind (fun x380 =>
  if x380 = true then (
  (lim (fun N => mLineLookerLook_1 N (⟨x256, (k374 : Int)⟩ : LineEnd) 0 x16 l20 l24 l28 l32 l36 x37 x38 l42 l43 l371 l373)).bind (unc2 fun l384 l385 =>
  some (l384, l385)))
  else (
  some (l371, l373)))

/-- (*fishplate/line.looker).look -/
noncomputable def mLineLookerLook (x16 : Int) (l20 : (List ByteArray)) (l24 : (List ApiSection)) (l28 : (List ApiLink)) (l32 : (List ApiSignal)) (l36 : (List ApiGate)) (x37 : Int) (x38 : Int) (l42 : (List ApiStep)) (l43 : (List ApiStep)) (l44 : (List ApiNeed)) (l46 : (List (ApiNeed × Bool))) : Option ((List ApiNeed) × (List (ApiNeed × Bool))) :=
  ((idx l42 x16).bind fun x271 =>
  some (x271.Section, x271.In, x271.Out)).bind (unc3 fun x256 x257 x258 =>
  (idx l24 x256).bind fun x294 =>
  (mLineEnds x294.Kind).bind fun x304 =>
  (chk x304).bind fun _ =>
  (forS (mLineLookerLook_L306 l20 l24 l28 l32 l36 l42 l43 x16 x37 x38 x256 x257 x258) ((x304).toNat) 0 (l44, l46)).bind (unc2 fun l371 l373 =>
  some (l371, l373)))

noncomputable def mLineNeeds_L860 (s1 : ApiNet) (s17 : ApiRoute) (l523 : (List ApiStep)) (k914 : Nat) : ((List ApiNeed) × (List (ApiNeed × Bool))) → Option ((List ApiNeed) × (List (ApiNeed × Bool))) := unc2 fun l911 l913 =>
  (mLineLookerLook (k914 : Int) s1.Stations s1.Sections s1.Links s1.Signals s1.Gates s17.From s17.To s17.Steps l523 l911 l913).bind (unc2 fun l917 l918 =>
  some (l917, l918))

noncomputable def mLineNeeds_L696 (s1 : ApiNet) (s17 : ApiRoute) (l523 : (List ApiStep)) (k812 : Nat) : ((List ApiNeed) × (List (ApiNeed × Bool))) → Option ((List ApiNeed) × (List (ApiNeed × Bool))) := unc2 fun l809 l811 =>
  (idx l523 (k812 : Int)).bind fun x815 =>
  (mLinePosition s1 x815).bind fun x846 =>
  (mLineLookerNeed (⟨2, x815.Section, x846, (-1)⟩ : ApiNeed) s1.Stations s1.Sections s1.Links s1.Signals s1.Gates s17.From s17.To s17.Steps l523 l809 l811).bind (unc2 fun l848 l849 =>
  some (l848, l849))

noncomputable def mLineNeeds_L550 (s1 : ApiNet) (s17 : ApiRoute) (l523 : (List ApiStep)) (k654 : Nat) : ((List ApiNeed) × (List (ApiNeed × Bool))) → Option ((List ApiNeed) × (List (ApiNeed × Bool))) := unc2 fun l651 l653 =>
  (idx s17.Steps (k654 : Int)).bind fun x657 =>
  (mLinePosition s1 x657).bind fun x682 =>
  (mLineLookerNeed (⟨1, x657.Section, x682, (k654 : Int)⟩ : ApiNeed) s1.Stations s1.Sections s1.Links s1.Signals s1.Gates s17.From s17.To s17.Steps l523 l651 l653).bind (unc2 fun l684 l685 =>
  some (l684, l685))

/-- fishplate/line.needs -/
noncomputable def mLineNeeds (s1 : ApiNet) (s17 : ApiRoute) : Option ((List ApiNeed)) :=
  ((mLineOverlap s1 s17).bind fun l538 =>
  some (l538, ([] : (List (ApiNeed × Bool))))).bind (unc2 fun l523 l524 =>
  (forS (mLineNeeds_L550 s1 s17 l523) s17.Steps.length 0 (([], l524) : (List ApiNeed) × (List (ApiNeed × Bool)))).bind (unc2 fun l651 l653 =>
  (forS (mLineNeeds_L696 s1 s17 l523) l523.length 0 (l651, l653)).bind (unc2 fun l809 l811 =>
  (forS (mLineNeeds_L860 s1 s17 l523) s17.Steps.length 0 (l809, l811)).bind (unc2 fun l911 l913 =>
  (mLineLookerNeed (⟨5, s17.From, 0, (-1)⟩ : ApiNeed) s1.Stations s1.Sections s1.Links s1.Signals s1.Gates s17.From s17.To s17.Steps l523 l911 l913).bind (unc2 fun l930 _ =>
  some l930)))))

noncomputable def mLineOpen_L235 (s1 : ApiNet) (l21 : (List ApiRoute)) (k357 : Nat) : ((List (List ApiNeed))) → Option ((List (List ApiNeed))) := fun l356 =>
  (idx l21 (k357 : Int)).bind fun x360 =>
  (mLineNeeds s1 x360).bind fun l393 =>
  (room 24 (l356.length + 1)).bind fun _ =>
  some (l356 ++ [l393])

/-- fishplate/line.open -/
noncomputable def mLineOpen (s1 : ApiNet) (x17 : Int) (l21 : (List ApiRoute)) : Option ((List ByteArray) × (List ApiSection) × (List ApiLink) × (List ApiSignal) × (List ApiGate) × Int × (List ApiRoute) × (List (List ApiNeed))) :=
  (forS (mLineOpen_L235 s1 l21) l21.length 0 ([] : (List (List ApiNeed)))).bind (fun l356 =>
  some (s1.Stations, s1.Sections, s1.Links, s1.Signals, s1.Gates, x17, l21, l356))

/-- (*fishplate/line.legs).add-1 -/
noncomputable def mLineLegsAdd_1 (x9 : Int) (x10 : Int) (_x11 : Int) (_x12 : Int) (_l16 : (List ByteArray)) (_l20 : (List ApiSection)) (_l24 : (List ApiLink)) (_l28 : (List ApiSignal)) (_l32 : (List ApiGate)) (_x33 : Int) (l37 : (List ApiRoute)) (_l38 : (List (List ApiNeed))) : Option (Bool) :=
  (idx l37 x9).bind fun x85 =>
  (mLineStands x85.Steps x10).bind fun x98 =>
  some x98

noncomputable def mSlicesIndexFunc_3_L83 (l12 : (List Int)) (l19 : (List ByteArray)) (l23 : (List ApiSection)) (l27 : (List ApiLink)) (l31 : (List ApiSignal)) (l35 : (List ApiGate)) (l40 : (List ApiRoute)) (l41 : (List (List ApiNeed))) (x13 : Int) (x14 : Int) (x15 : Int) (x36 : Int) (k102 : Nat) : (Unit) → Option ((Unit) ⊕ (Int)) := fun _ =>
  (idx l12 (k102 : Int)).bind fun x106 =>
  (mLineLegsAdd_1 x106 x13 x14 x15 l19 l23 l27 l31 l35 x36 l40 l41).bind fun x116 =>
  if x116 = true then (
  some (.inr (k102 : Int)))
  else (
  some (.inl ()))

/-- slices.IndexFunc[[]int,int] -/
noncomputable def mSlicesIndexFunc_3 (l12 : (List Int)) (x13 : Int) (x14 : Int) (x15 : Int) (l19 : (List ByteArray)) (l23 : (List ApiSection)) (l27 : (List ApiLink)) (l31 : (List ApiSignal)) (l35 : (List ApiGate)) (x36 : Int) (l40 : (List ApiRoute)) (l41 : (List (List ApiNeed))) : Option (Int) :=
  (forM (mSlicesIndexFunc_3_L83 l12 l19 l23 l27 l31 l35 l40 l41 x13 x14 x15 x36) l12.length 0 ()).bind fun t => Sum.elim (fun _ =>
  some (-1)) (fun q => some q) t

/-- slices.ContainsFunc[[]int,int] -/
noncomputable def mSlicesContainsFunc_3 (l12 : (List Int)) (x13 : Int) (x14 : Int) (x15 : Int) (l19 : (List ByteArray)) (l23 : (List ApiSection)) (l27 : (List ApiLink)) (l31 : (List ApiSignal)) (l35 : (List ApiGate)) (x36 : Int) (l40 : (List ApiRoute)) (l41 : (List (List ApiNeed))) : Option (Bool) :=
  (mSlicesIndexFunc_3 l12 x13 x14 x15 l19 l23 l27 l31 l35 x36 l40 l41).bind fun x47 =>
  some (decide (0 ≤ x47))

/-- fishplate/line.Meets-1 -/
noncomputable def mLineMeets_1 (s1 : ApiNeed) : Option (Bool) :=
  (if s1.Kind = 1 then (
  some true)
  else (
  some (decide (s1.Kind = 2)))).bind (fun x14 =>
  some x14)

/-- fishplate/line.Meets-2 -/
noncomputable def mLineMeets_2 (s2 : ApiNeed) (s3 : ApiNeed) : Option (Bool) :=
  (if s2.Kind = 3 then (
  if s3.Kind = 3 then (
  some (decide (s2.Position ≠ s3.Position)))
  else (
  (mLineMeets_1 s3).bind fun x34 =>
  if x34 = true then (
  some (decide (s2.Position ≠ s3.Position)))
  else (
  some false)))
  else (
  some false)).bind (fun x30 =>
  some x30)

/-- fishplate/line.Meets-3 -/
noncomputable def mLineMeets_3 (s1 : ApiNeed) (s2 : ApiNeed) : Option (Bool) :=
  (if s1.Kind = 4 then (
  some (decide (s2.Kind = 5)))
  else (
  some false)).bind (fun x17 =>
  some x17)

/-- fishplate/line.Meets -/
noncomputable def mLineMeets (s1 : ApiNeed) (s2 : ApiNeed) : Option (Bool) :=
  if s1.Place ≠ s2.Place then (
  some false)
  else (
  ((mLineMeets_1 s1).bind fun x128 =>
  if x128 = true then (
  (mLineMeets_1 s2).bind fun x131 =>
  if x131 = true then (
  some true)
  else (
  (mLineMeets_2 s1 s2).bind fun x134 =>
  if x134 = true then (
  some true)
  else (
  (mLineMeets_2 s2 s1).bind fun x139 =>
  if x139 = true then (
  some true)
  else (
  (mLineMeets_3 s1 s2).bind fun x144 =>
  if x144 = true then (
  some true)
  else (
  (mLineMeets_3 s2 s1).bind fun x147 =>
  some x147)))))
  else (
  (mLineMeets_2 s1 s2).bind fun x149 =>
  if x149 = true then (
  some true)
  else (
  (mLineMeets_2 s2 s1).bind fun x154 =>
  if x154 = true then (
  some true)
  else (
  (mLineMeets_3 s1 s2).bind fun x159 =>
  if x159 = true then (
  some true)
  else (
  (mLineMeets_3 s2 s1).bind fun x162 =>
  some x162))))).bind (fun x126 =>
  some x126))

/-- fishplate/line.meet-1-1 -/
noncomputable def mLineMeet_1_1 (s2 : ApiNeed) (x3 : Int) (x4 : Int) (x5 : Int) (x6 : Int) : Option (Bool) :=
  (mLineMeets (⟨x3, x4, x5, x6⟩ : ApiNeed) s2).bind fun x12 =>
  some x12

noncomputable def mSlicesIndexFunc_5_L51 (l5 : (List ApiNeed)) (x6 : Int) (x7 : Int) (x8 : Int) (x9 : Int) (k70 : Nat) : (Unit) → Option ((Unit) ⊕ (Int)) := fun _ =>
  (idx l5 (k70 : Int)).bind fun x74 =>
  (mLineMeet_1_1 x74 x6 x7 x8 x9).bind fun x84 =>
  if x84 = true then (
  some (.inr (k70 : Int)))
  else (
  some (.inl ()))

/-- slices.IndexFunc[[]fishplate/api.Need,fishplate/api.Need] -/
noncomputable def mSlicesIndexFunc_5 (l5 : (List ApiNeed)) (x6 : Int) (x7 : Int) (x8 : Int) (x9 : Int) : Option (Int) :=
  (forM (mSlicesIndexFunc_5_L51 l5 x6 x7 x8 x9) l5.length 0 ()).bind fun t => Sum.elim (fun _ =>
  some (-1)) (fun q => some q) t

/-- slices.ContainsFunc[[]fishplate/api.Need,fishplate/api.Need] -/
noncomputable def mSlicesContainsFunc_5 (l5 : (List ApiNeed)) (x6 : Int) (x7 : Int) (x8 : Int) (x9 : Int) : Option (Bool) :=
  (mSlicesIndexFunc_5 l5 x6 x7 x8 x9).bind fun x15 =>
  some (decide (0 ≤ x15))

/-- fishplate/line.meet-1 -/
noncomputable def mLineMeet_1 (s2 : ApiNeed) (l6 : (List ApiNeed)) : Option (Bool) :=
  (mSlicesContainsFunc_5 l6 s2.Kind s2.Place s2.Position s2.At).bind fun x14 =>
  some x14

noncomputable def mSlicesIndexFunc_4_L51 (l5 : (List ApiNeed)) (l9 : (List ApiNeed)) (k70 : Nat) : (Unit) → Option ((Unit) ⊕ (Int)) := fun _ =>
  (idx l5 (k70 : Int)).bind fun x74 =>
  (mLineMeet_1 x74 l9).bind fun x84 =>
  if x84 = true then (
  some (.inr (k70 : Int)))
  else (
  some (.inl ()))

/-- slices.IndexFunc[[]fishplate/api.Need,fishplate/api.Need] -/
noncomputable def mSlicesIndexFunc_4 (l5 : (List ApiNeed)) (l9 : (List ApiNeed)) : Option (Int) :=
  (forM (mSlicesIndexFunc_4_L51 l5 l9) l5.length 0 ()).bind fun t => Sum.elim (fun _ =>
  some (-1)) (fun q => some q) t

/-- slices.ContainsFunc[[]fishplate/api.Need,fishplate/api.Need] -/
noncomputable def mSlicesContainsFunc_4 (l5 : (List ApiNeed)) (l9 : (List ApiNeed)) : Option (Bool) :=
  (mSlicesIndexFunc_4 l5 l9).bind fun x15 =>
  some (decide (0 ≤ x15))

/-- fishplate/line.meet -/
noncomputable def mLineMeet (l4 : (List ApiNeed)) (l8 : (List ApiNeed)) : Option (Bool) :=
  (mSlicesContainsFunc_4 l4 l8).bind fun x16 =>
  some x16

noncomputable def mLineLegsAdd_L1550 (l37 : (List (List ApiNeed))) (x11 : Int) (x1531 : (List ApiNeed)) (k1670 : Nat) : (Unit) → Option ((Unit) ⊕ ((Unit) ⊕ (Int))) := fun _ =>
  (idx x1531 (k1670 : Int)).bind fun x1674 =>
  (if x1674.Kind ≠ 2 then (
  (idx l37 x11).bind fun x1766 =>
  (mLineMeet [x1674] x1766).bind fun x1787 =>
  some x1787)
  else (
  some false)).bind (fun x1737 =>
  if x1737 = true then (
  some (.inr (.inr 8)))
  else (
  some (.inl ())))

noncomputable def mLineLegsAdd_L1243 (l10 : (List Int)) (l37 : (List (List ApiNeed))) (x11 : Int) (k1517 : Nat) : (Unit) → Option ((Unit) ⊕ (Int)) := fun _ =>
  (idx l10 (k1517 : Int)).bind fun x1521 =>
  (idx l37 x1521).bind fun x1531 =>
  (forM (mLineLegsAdd_L1550 l37 x11 x1531) x1531.length 0 ()).bind fun t => Sum.elim (fun _ =>
  some (.inl ())) (fun q => some q) t

noncomputable def mLineLegsAdd_L1161 (l10 : (List Int)) (l15 : (List ByteArray)) (l19 : (List ApiSection)) (l23 : (List ApiLink)) (l27 : (List ApiSignal)) (l31 : (List ApiGate)) (l36 : (List ApiRoute)) (l37 : (List (List ApiNeed))) (x32 : Int) (x944 : ApiRoute) (k1201 : Nat) : (Unit) → Option ((Unit) ⊕ (Int)) := fun _ =>
  (idx x944.Steps (k1201 : Int)).bind fun x1205 =>
  (if x1205.Section = x32 then (
  some true)
  else (
  (mSlicesContainsFunc_3 l10 x1205.Section x1205.In x1205.Out l15 l19 l23 l27 l31 x32 l36 l37).bind fun x1236 =>
  some x1236)).bind (fun x1228 =>
  if x1228 = true then (
  some (.inr 6))
  else (
  some (.inl ())))

/-- (*fishplate/line.legs).add -/
noncomputable def mLineLegsAdd (l10 : (List Int)) (x11 : Int) (l15 : (List ByteArray)) (l19 : (List ApiSection)) (l23 : (List ApiLink)) (l27 : (List ApiSignal)) (l31 : (List ApiGate)) (x32 : Int) (l36 : (List ApiRoute)) (l37 : (List (List ApiNeed))) : Option (Int) :=
  (chk ((l36.length : Int) - 1)).bind fun _ =>
  (mLineWithin x11 0 ((l36.length : Int) - 1)).bind fun x941 =>
  if x941 = true then (
  (idx l36 x11).bind fun x944 =>
  ((if (l10.length : Int) = 0 then (
  (idx l27 x944.From).bind fun x1099 =>
  some (decide (x1099.Section ≠ x32)))
  else (
  some false)).bind (fun x1085 =>
  if x1085 = true then (
  some x1085)
  else (
  if 0 < (l10.length : Int) then (
  (chk ((l10.length : Int) - 1)).bind fun _ =>
  (idx l10 ((l10.length : Int) - 1)).bind fun x1137 =>
  (idx l36 x1137).bind fun x1147 =>
  some (decide (x944.From ≠ x1147.To)))
  else (
  some false)))).bind (fun x1059 =>
  if x1059 = true then (
  some 5)
  else (
  (forM (mLineLegsAdd_L1161 l10 l15 l19 l23 l27 l31 l36 l37 x32 x944) x944.Steps.length 0 ()).bind fun t => Sum.elim (fun _ =>
  (forM (mLineLegsAdd_L1243 l10 l37 x11) l10.length 0 ()).bind fun t => Sum.elim (fun _ =>
  ((mLineOverlap (⟨l15, l19, l23, l27, l31⟩ : ApiNet) x944).bind fun l1828 =>
  (mLineStands l1828 x32).bind fun x1836 =>
  some x1836).bind (fun x1816 =>
  if x1816 = true then (
  some 8)
  else (
  some 0))) (fun q => some q) t) (fun q => some q) t)))
  else (
  some 3)

/-- slices.Clone[[]int,int] -/
noncomputable def mSlicesClone_2 (l4 : (List Int)) : Option ((List Int)) :=
  (room 8 l4.length).bind fun _ => some l4

/-- (*fishplate/line.legs).last -/
noncomputable def mLineLegsLast (_l15 : (List ByteArray)) (_l19 : (List ApiSection)) (_l23 : (List ApiLink)) (_l27 : (List ApiSignal)) (_l31 : (List ApiGate)) (_x32 : Int) (l36 : (List ApiRoute)) (l37 : (List Int)) (_l39 : (List (List ApiNeed))) : Option (Int) :=
  (chk ((l37.length : Int) - 1)).bind fun _ =>
  (idx l37 ((l37.length : Int) - 1)).bind fun x143 =>
  (idx l36 x143).bind fun x159 =>
  (chk ((x159.Steps.length : Int) - 1)).bind fun _ =>
  (idx x159.Steps ((x159.Steps.length : Int) - 1)).bind fun x173 =>
  some x173.Section

noncomputable def mSlicesIndexFunc_6_L98 (l20 : (List ByteArray)) (l24 : (List ApiSection)) (l28 : (List ApiLink)) (l32 : (List ApiSignal)) (l36 : (List ApiGate)) (l41 : (List ApiRoute)) (l42 : (List Int)) (l44 : (List (List ApiNeed))) (x14 : Int) (x15 : Int) (x16 : Int) (x37 : Int) (k123 : Nat) : (Unit) → Option ((Unit) ⊕ (Int)) := fun _ =>
  (idx l42 (k123 : Int)).bind fun x127 =>
  (mLineLegsAdd_1 x127 x14 x15 x16 l20 l24 l28 l32 l36 x37 l41 l44).bind fun x143 =>
  if x143 = true then (
  some (.inr (k123 : Int)))
  else (
  some (.inl ()))

/-- slices.IndexFunc[[]int,int] -/
noncomputable def mSlicesIndexFunc_6 (x14 : Int) (x15 : Int) (x16 : Int) (l20 : (List ByteArray)) (l24 : (List ApiSection)) (l28 : (List ApiLink)) (l32 : (List ApiSignal)) (l36 : (List ApiGate)) (x37 : Int) (l41 : (List ApiRoute)) (l42 : (List Int)) (l44 : (List (List ApiNeed))) : Option (Int) :=
  (forM (mSlicesIndexFunc_6_L98 l20 l24 l28 l32 l36 l41 l42 l44 x14 x15 x16 x37) l42.length 0 ()).bind fun t => Sum.elim (fun _ =>
  some (-1)) (fun q => some q) t

/-- slices.ContainsFunc[[]int,int] -/
noncomputable def mSlicesContainsFunc_6 (x14 : Int) (x15 : Int) (x16 : Int) (l20 : (List ByteArray)) (l24 : (List ApiSection)) (l28 : (List ApiLink)) (l32 : (List ApiSignal)) (l36 : (List ApiGate)) (x37 : Int) (l41 : (List ApiRoute)) (l42 : (List Int)) (l44 : (List (List ApiNeed))) : Option (Bool) :=
  (mSlicesIndexFunc_6 x14 x15 x16 l20 l24 l28 l32 l36 x37 l41 l42 l44).bind fun x50 =>
  some (decide (0 ≤ x50))

noncomputable def mLineLegsAdd_2_L1625 (l40 : (List (List ApiNeed))) (x12 : Int) (x1606 : (List ApiNeed)) (k1745 : Nat) : (Unit) → Option ((Unit) ⊕ ((Unit) ⊕ (Int))) := fun _ =>
  (idx x1606 (k1745 : Int)).bind fun x1749 =>
  (if x1749.Kind ≠ 2 then (
  (idx l40 x12).bind fun x1841 =>
  (mLineMeet [x1749] x1841).bind fun x1862 =>
  some x1862)
  else (
  some false)).bind (fun x1812 =>
  if x1812 = true then (
  some (.inr (.inr 8)))
  else (
  some (.inl ())))

noncomputable def mLineLegsAdd_2_L1306 (l38 : (List Int)) (l40 : (List (List ApiNeed))) (x12 : Int) (k1586 : Nat) : (Unit) → Option ((Unit) ⊕ (Int)) := fun _ =>
  (idx l38 (k1586 : Int)).bind fun x1590 =>
  (idx l40 x1590).bind fun x1606 =>
  (forM (mLineLegsAdd_2_L1625 l40 x12 x1606) x1606.length 0 ()).bind fun t => Sum.elim (fun _ =>
  some (.inl ())) (fun q => some q) t

noncomputable def mLineLegsAdd_2_L1224 (l16 : (List ByteArray)) (l20 : (List ApiSection)) (l24 : (List ApiLink)) (l28 : (List ApiSignal)) (l32 : (List ApiGate)) (l37 : (List ApiRoute)) (l38 : (List Int)) (l40 : (List (List ApiNeed))) (x33 : Int) (x983 : ApiRoute) (k1264 : Nat) : (Unit) → Option ((Unit) ⊕ (Int)) := fun _ =>
  (idx x983.Steps (k1264 : Int)).bind fun x1268 =>
  (if x1268.Section = x33 then (
  some true)
  else (
  (mSlicesContainsFunc_6 x1268.Section x1268.In x1268.Out l16 l20 l24 l28 l32 x33 l37 l38 l40).bind fun x1299 =>
  some x1299)).bind (fun x1291 =>
  if x1291 = true then (
  some (.inr 6))
  else (
  some (.inl ())))

/-- (*fishplate/line.legs).add -/
noncomputable def mLineLegsAdd_2 (x12 : Int) (l16 : (List ByteArray)) (l20 : (List ApiSection)) (l24 : (List ApiLink)) (l28 : (List ApiSignal)) (l32 : (List ApiGate)) (x33 : Int) (l37 : (List ApiRoute)) (l38 : (List Int)) (l40 : (List (List ApiNeed))) : Option (Int) :=
  (chk ((l37.length : Int) - 1)).bind fun _ =>
  (mLineWithin x12 0 ((l37.length : Int) - 1)).bind fun x980 =>
  if x980 = true then (
  (idx l37 x12).bind fun x983 =>
  ((if (l38.length : Int) = 0 then (
  (idx l28 x983.From).bind fun x1150 =>
  some (decide (x1150.Section ≠ x33)))
  else (
  some false)).bind (fun x1136 =>
  if x1136 = true then (
  some x1136)
  else (
  if 0 < (l38.length : Int) then (
  (chk ((l38.length : Int) - 1)).bind fun _ =>
  (idx l38 ((l38.length : Int) - 1)).bind fun x1194 =>
  (idx l37 x1194).bind fun x1210 =>
  some (decide (x983.From ≠ x1210.To)))
  else (
  some false)))).bind (fun x1110 =>
  if x1110 = true then (
  some 5)
  else (
  (forM (mLineLegsAdd_2_L1224 l16 l20 l24 l28 l32 l37 l38 l40 x33 x983) x983.Steps.length 0 ()).bind fun t => Sum.elim (fun _ =>
  (forM (mLineLegsAdd_2_L1306 l38 l40 x12) l38.length 0 ()).bind fun t => Sum.elim (fun _ =>
  ((mLineOverlap (⟨l16, l20, l24, l28, l32⟩ : ApiNet) x983).bind fun l1903 =>
  (mLineStands l1903 x33).bind fun x1911 =>
  some x1911).bind (fun x1891 =>
  if x1891 = true then (
  some 8)
  else (
  some 0))) (fun q => some q) t) (fun q => some q) t)))
  else (
  some 3)

noncomputable def mLineChains_1_3_L384 (l26 : (List ApiRoute)) (l32 : (List ByteArray)) (l36 : (List ApiSection)) (l40 : (List ApiLink)) (l44 : (List ApiSignal)) (l48 : (List ApiGate)) (l53 : (List ApiRoute)) (l54 : (List Int)) (l57 : (List (List ApiNeed))) (x27 : Int) (x28 : Int) (x49 : Int) (rcmLineChains_1_3 : ((List ApiRoute)) → (Int) → (Int) → ((List ByteArray)) → ((List ApiSection)) → ((List ApiLink)) → ((List ApiSignal)) → ((List ApiGate)) → (Int) → ((List ApiRoute)) → ((List Int)) → ((List (List Int))) → ((List (List ApiNeed))) → Option ((List (List Int)))) (k498 : Nat) : ((List (List Int))) → Option (((List (List Int))) ⊕ ((List (List Int)))) := fun l497 =>
  if (l497.length : Int) = x27 then (
  some (.inr l497))
  else (
  (mLineLegsAdd_2 (k498 : Int) l32 l36 l40 l44 l48 x49 l53 l54 l57).bind fun x504 =>
  if x504 ≠ 0 then (
  some (.inl l497))
  else (
  (mSlicesClone_2 l54).bind fun l509 =>
  (room 8 (l509.length + 1)).bind fun _ =>
  (mLineLegsLast l32 l36 l40 l44 l48 x49 l53 (l509 ++ [(k498 : Int)]) l57).bind fun x527 =>
  if x527 = x28 then (
  (room 24 (l497.length + 1)).bind fun _ =>
  some (.inl (l497 ++ [l509 ++ [(k498 : Int)]])))
  else (
  if ((l509 ++ [(k498 : Int)]).length : Int) < 4 then (
  (rcmLineChains_1_3 l26 x27 x28 l32 l36 l40 l44 l48 x49 l53 (l509 ++ [(k498 : Int)]) l497 l57).bind fun l544 =>
  some (.inl l544))
  else (
  some (.inl l497)))))

/-- fishplate/line.Chains-1 -/
noncomputable def mLineChains_1_3 : Nat → ((List ApiRoute)) → (Int) → (Int) → ((List ByteArray)) → ((List ApiSection)) → ((List ApiLink)) → ((List ApiSignal)) → ((List ApiGate)) → (Int) → ((List ApiRoute)) → ((List Int)) → ((List (List Int))) → ((List (List ApiNeed))) → Option ((List (List Int)))
  | 0 => fun _ _ _ _ _ _ _ _ _ _ _ _ _ => none
  | N + 1 => fun l26 x27 x28 l32 l36 l40 l44 l48 x49 l53 l54 l56 l57 =>
  (forM (mLineChains_1_3_L384 l26 l32 l36 l40 l44 l48 l53 l54 l57 x27 x28 x49 (mLineChains_1_3 N)) l26.length 0 l56).bind fun t => Sum.elim (fun l497 =>
  some l497) (fun q => some q) t

noncomputable def mLineChains_1_L231 (l21 : (List Int)) (l25 : (List ApiRoute)) (l31 : (List ByteArray)) (l35 : (List ApiSection)) (l39 : (List ApiLink)) (l43 : (List ApiSignal)) (l47 : (List ApiGate)) (l52 : (List ApiRoute)) (l55 : (List (List ApiNeed))) (x26 : Int) (x27 : Int) (x48 : Int) (k345 : Nat) : ((List (List Int))) → Option (((List (List Int))) ⊕ ((List (List Int)))) := fun l344 =>
  if (l344.length : Int) = x26 then (
  some (.inr l344))
  else (
  (mLineLegsAdd l21 (k345 : Int) l31 l35 l39 l43 l47 x48 l52 l55).bind fun x351 =>
  if x351 ≠ 0 then (
  some (.inl l344))
  else (
  (mSlicesClone_2 l21).bind fun l356 =>
  (room 8 (l356.length + 1)).bind fun _ =>
  (mLineLegsLast l31 l35 l39 l43 l47 x48 l52 (l356 ++ [(k345 : Int)]) l55).bind fun x374 =>
  if x374 = x27 then (
  (room 24 (l344.length + 1)).bind fun _ =>
  some (.inl (l344 ++ [l356 ++ [(k345 : Int)]])))
  else (
  if ((l356 ++ [(k345 : Int)]).length : Int) < 4 then (
  (lim (fun N => mLineChains_1_3 N l25 x26 x27 l31 l35 l39 l43 l47 x48 l52 (l356 ++ [(k345 : Int)]) l344 l55)).bind fun l391 =>
  some (.inl l391))
  else (
  some (.inl l344)))))

/-- fishplate/line.Chains-1 -/
noncomputable def mLineChains_1 (l21 : (List Int)) (l25 : (List ApiRoute)) (x26 : Int) (x27 : Int) (l31 : (List ByteArray)) (l35 : (List ApiSection)) (l39 : (List ApiLink)) (l43 : (List ApiSignal)) (l47 : (List ApiGate)) (x48 : Int) (l52 : (List ApiRoute)) (l53 : (List (List Int))) (l55 : (List (List ApiNeed))) : Option ((List (List Int))) :=
  (forM (mLineChains_1_L231 l21 l25 l31 l35 l39 l43 l47 l52 l55 x26 x27 x48) l25.length 0 l53).bind fun t => Sum.elim (fun l344 =>
  some l344) (fun q => some q) t

/-- fishplate/line.Chains -/
noncomputable def mLineChains (s1 : ApiNet) (x17 : Int) (x18 : Int) (x19 : Int) : Option (Int × (List (List Int))) :=
  (mLineRoutes s1).bind (unc2 fun x131 l132 =>
  if x131 ≠ 0 then (
  some (x131, []))
  else (
  ((mLinePlatform s1 x17).bind fun x152 =>
  if x152 = true then (
  (mLinePlatform s1 x18).bind fun x155 =>
  some (!x155))
  else (
  some true)).bind (fun x150 =>
  if x150 = true then (
  some (3, []))
  else (
  (mLineWithin x19 1 20).bind fun x158 =>
  if x158 = true then (
  (mLineOpen s1 x17 l132).bind (unc8 fun l165 l166 l167 l168 l169 x170 l171 l172 =>
  (if x17 ≠ x18 then (
  (mLineChains_1 [] l132 x19 x18 l165 l166 l167 l168 l169 x170 l171 [] l172).bind fun l221 =>
  some l221)
  else (
  some [])).bind (fun l218 =>
  some (0, l218))))
  else (
  some (2, []))))))

/-- (*fishplate/line.legs).last -/
noncomputable def mLineLegsLast_2 (l10 : (List Int)) (_l14 : (List ByteArray)) (_l18 : (List ApiSection)) (_l22 : (List ApiLink)) (_l26 : (List ApiSignal)) (_l30 : (List ApiGate)) (_x31 : Int) (l35 : (List ApiRoute)) (_l36 : (List (List ApiNeed))) : Option (Int) :=
  (chk ((l10.length : Int) - 1)).bind fun _ =>
  (idx l10 ((l10.length : Int) - 1)).bind fun x122 =>
  (idx l35 x122).bind fun x132 =>
  (chk ((x132.Steps.length : Int) - 1)).bind fun _ =>
  (idx x132.Steps ((x132.Steps.length : Int) - 1)).bind fun x146 =>
  some x146.Section

noncomputable def mLineCheckLeg_L232 (l21 : (List Int)) (l198 : (List ByteArray)) (l199 : (List ApiSection)) (l200 : (List ApiLink)) (l201 : (List ApiSignal)) (l202 : (List ApiGate)) (l204 : (List ApiRoute)) (l205 : (List (List ApiNeed))) (x203 : Int) (k266 : Nat) : (Unit) → Option ((Unit) ⊕ (Int)) := fun _ =>
  (idx l21 (k266 : Int)).bind fun x270 =>
  (cutS l21 0 (k266 : Int)).bind fun l280 =>
  (mLineLegsAdd l280 x270 l198 l199 l200 l201 l202 x203 l204 l205).bind fun x295 =>
  if x295 ≠ 0 then (
  some (.inr x295))
  else (
  some (.inl ()))

/-- fishplate/line.CheckLeg -/
noncomputable def mLineCheckLeg (s1 : ApiNet) (x17 : Int) (l21 : (List Int)) : Option (Int) :=
  (mLineRoutes s1).bind (unc2 fun x178 l179 =>
  if x178 ≠ 0 then (
  some x178)
  else (
  (mLinePlatform s1 x17).bind fun x189 =>
  if x189 = true then (
  if 4 < (l21.length : Int) then (
  some 4)
  else (
  if (l21.length : Int) = 0 then (
  some 1)
  else (
  (mLineOpen s1 x17 l179).bind (unc8 fun l198 l199 l200 l201 l202 x203 l204 l205 =>
  (forM (mLineCheckLeg_L232 l21 l198 l199 l200 l201 l202 l204 l205 x203) l21.length 0 ()).bind fun t => Sum.elim (fun _ =>
  ((mLineLegsLast_2 l21 l198 l199 l200 l201 l202 x203 l204 l205).bind fun x324 =>
  (mLinePlatform s1 x324).bind fun x328 =>
  some (!x328)).bind (fun x316 =>
  if x316 = true then (
  some 5)
  else (
  some 0))) (fun q => some q) t))))
  else (
  some 3)))

noncomputable def mSlicesCompare_L70 (l4 : (List Int)) (l8 : (List Int)) (k98 : Nat) : (Unit) → Option ((Unit) ⊕ (Int)) := fun _ =>
  (idx l4 (k98 : Int)).bind fun x102 =>
  if (l8.length : Int) ≤ (k98 : Int) then (
  some (.inr 1))
  else (
  (idx l8 (k98 : Int)).bind fun x114 =>
  (mCmpCompare x102 x114).bind fun x124 =>
  if x124 ≠ 0 then (
  some (.inr x124))
  else (
  some (.inl ())))

/-- slices.Compare[[]int,int] -/
noncomputable def mSlicesCompare (l4 : (List Int)) (l8 : (List Int)) : Option (Int) :=
  (forM (mSlicesCompare_L70 l4 l8) l4.length 0 ()).bind fun t => Sum.elim (fun _ =>
  if (l4.length : Int) < (l8.length : Int) then (
  some (-1))
  else (
  some 0)) (fun q => some q) t

noncomputable def mFishkeep1LineGoes_L316 (s1 : ApiNet) (x17 : Int) (x18 : Int) (l297 : (List (List Int))) (l307 : (List ApiRoute)) (k438 : Nat) : (Unit) → Option ((Unit) ⊕ (Bool)) := fun _ =>
  (idx l297 (k438 : Int)).bind fun x442 =>
  ((mLineCheckLeg s1 x17 x442).bind fun x491 =>
  if x491 ≠ 0 then (
  some true)
  else (
  if 0 < (k438 : Int) then (
  (chk ((k438 : Int) - 1)).bind fun _ =>
  (idx l297 ((k438 : Int) - 1)).bind fun x496 =>
  (mSlicesCompare x496 x442).bind fun x515 =>
  some (decide (0 ≤ x515)))
  else (
  some false))).bind (fun x489 =>
  if x489 = true then (
  some (.inr false))
  else (
  (chk ((x442.length : Int) - 1)).bind fun _ =>
  (idx x442 ((x442.length : Int) - 1)).bind fun x520 =>
  (idx l307 x520).bind fun x530 =>
  (chk ((x530.Steps.length : Int) - 1)).bind fun _ =>
  (idx x530.Steps ((x530.Steps.length : Int) - 1)).bind fun x550 =>
  if x550.Section ≠ x18 then (
  some (.inr false))
  else (
  some (.inl ()))))

/-- fishplate/fishkeep1.LineGoes -/
noncomputable def mFishkeep1LineGoes (s1 : ApiNet) (x17 : Int) (x18 : Int) (x19 : Int) : Option (Bool) :=
  (mFishkeep1AwakeLine).bind fun x293 =>
  if x293 = true then (
  (mLineChains s1 x17 x18 x19).bind (unc2 fun x296 l297 =>
  if x296 ≠ 0 then (
  some (decide ((l297.length : Int) = 0)))
  else (
  (mLineRoutes s1).bind (unc2 fun _ l307 =>
  (forM (mFishkeep1LineGoes_L316 s1 x17 x18 l297 l307) l297.length 0 ()).bind fun t => Sum.elim (fun _ =>
  some (decide ((l297.length : Int) ≤ x19))) (fun q => some q) t))))
  else (
  some false)

end Go.Proofs.YtcibjjhanafojaaGreatDoor
