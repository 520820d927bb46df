/- The models of the functions, as the extractor printed them. -/
import Derived.Test.YtcibjjhanafojaaDoorXG
set_option linter.unusedVariables false
set_option linter.unusedSimpArgs false
namespace Go.Proofs.YtcibjjhanafojaaDoor
open Go.RowKit Go.Fp

structure ApiSection where
  Kind : Int
  Length : Int
  Grade : Int
  Speed : Int
  Slow : Int
  Station : Int
  Axles : Bool
  deriving DecidableEq
def rApiSection : RT ApiSection := (RT.cat (RT.on (RT.int .i64) ApiSection.Kind) (RT.cat (RT.on (RT.int .i64) ApiSection.Length) (RT.cat (RT.on (RT.int .i64) ApiSection.Grade) (RT.cat (RT.on (RT.int .i64) ApiSection.Speed) (RT.cat (RT.on (RT.int .i64) ApiSection.Slow) (RT.cat (RT.on (RT.int .i64) ApiSection.Station) (RT.on RT.bool ApiSection.Axles)))))))
structure ApiLink where
  A : Int
  EndA : Int
  B : Int
  EndB : Int
  deriving DecidableEq
def rApiLink : RT ApiLink := (RT.cat (RT.on (RT.int .i64) ApiLink.A) (RT.cat (RT.on (RT.int .i64) ApiLink.EndA) (RT.cat (RT.on (RT.int .i64) ApiLink.B) (RT.on (RT.int .i64) ApiLink.EndB))))
structure ApiSignal where
  Section : Int
  End : Int
  deriving DecidableEq
def rApiSignal : RT ApiSignal := (RT.cat (RT.on (RT.int .i64) ApiSignal.Section) (RT.on (RT.int .i64) ApiSignal.End))
structure ApiGate where
  Section : Int
  Close : Int
  deriving DecidableEq
def rApiGate : RT ApiGate := (RT.cat (RT.on (RT.int .i64) ApiGate.Section) (RT.on (RT.int .i64) ApiGate.Close))
structure ApiNet where
  Stations : (List ByteArray)
  Sections : (List ApiSection)
  Links : (List ApiLink)
  Signals : (List ApiSignal)
  Gates : (List ApiGate)
def rApiNet : RT ApiNet := (RT.cat (RT.on (RT.list RT.str) ApiNet.Stations) (RT.cat (RT.on (RT.list rApiSection) ApiNet.Sections) (RT.cat (RT.on (RT.list rApiLink) ApiNet.Links) (RT.cat (RT.on (RT.list rApiSignal) ApiNet.Signals) (RT.on (RT.list rApiGate) ApiNet.Gates)))))
structure LineEnd where
  section_ : Int
  end_ : Int
  deriving DecidableEq
def rLineEnd : RT LineEnd := (RT.cat (RT.on (RT.int .i64) LineEnd.section_) (RT.on (RT.int .i64) LineEnd.end_))
structure ApiStep where
  Section : Int
  In : Int
  Out : Int
  deriving DecidableEq
def rApiStep : RT ApiStep := (RT.cat (RT.on (RT.int .i64) ApiStep.Section) (RT.cat (RT.on (RT.int .i64) ApiStep.In) (RT.on (RT.int .i64) ApiStep.Out)))
structure ApiRoute where
  From : Int
  To : Int
  Steps : (List ApiStep)
def rApiRoute : RT ApiRoute := (RT.cat (RT.on (RT.int .i64) ApiRoute.From) (RT.cat (RT.on (RT.int .i64) ApiRoute.To) (RT.on (RT.list rApiStep) ApiRoute.Steps)))

/-- internal/stringslite.HasSuffix -/
noncomputable def mStringsliteHasSuffix (x1 : ByteArray) (x2 : ByteArray) : Option (Bool) :=
  (if (x2.size : Int) ≤ (x1.size : Int) then (
  (chk ((x1.size : Int) - (x2.size : Int))).bind fun _ =>
  (sCut x1 ((x1.size : Int) - (x2.size : Int)) (x1.size : Int)).bind fun q26 =>
  some (sEq q26 x2))
  else (
  some false)).bind (fun x22 =>
  some x22)

/-- internal/stringslite.CutSuffix -/
noncomputable def mStringsliteCutSuffix (x1 : ByteArray) (x2 : ByteArray) : Option (ByteArray × Bool) :=
  (mStringsliteHasSuffix x1 x2).bind fun x11 =>
  if x11 = true then (
  (chk ((x1.size : Int) - (x2.size : Int))).bind fun _ =>
  (sCut x1 0 ((x1.size : Int) - (x2.size : Int))).bind fun q15 =>
  some (q15, true))
  else (
  some (x1, false))

/-- strings.CutSuffix -/
noncomputable def mStringsCutSuffix (x1 : ByteArray) (x2 : ByteArray) : Option (ByteArray × Bool) :=
  (mStringsliteCutSuffix x1 x2).bind (unc2 fun x8 x9 =>
  some (x8, x9))

/-- internal/stringslite.IndexByte -/
noncomputable def mStringsliteIndexByte (x1 : ByteArray) (x2 : Int) : Option (Int) :=
  some (sFirst x1 x2)

/-- internal/stringslite.Index -/
noncomputable def mStringsliteIndex (x1 : ByteArray) (x2 : ByteArray) : Option (Int) :=
  (if (x2.size : Int) = 0 then (
  some true)
  else (
  some (sEq x2 x1))).bind (fun x20 =>
  if x20 = true then (
  some 0)
  else (
  if (x2.size : Int) = 1 then (
  (sIdx x2 0).bind fun x25 =>
  (mStringsliteIndexByte x1 x25).bind fun x27 =>
  some x27)
  else (
  if (x1.size : Int) ≤ (x2.size : Int) then (
  some (-1))
  else (
  none))))

/-- strings.Index -/
noncomputable def mStringsIndex (x1 : ByteArray) (x2 : ByteArray) : Option (Int) :=
  (mStringsliteIndex x1 x2).bind fun x6 =>
  some x6

noncomputable def mStringsCount_L40 (x2 : ByteArray) : (ByteArray × Int) → Option ((ByteArray × Int) ⊕ (Int)) := unc2 fun x59 x60 =>
  (mStringsIndex x59 x2).bind fun x61 =>
  if x61 = (-1) then (
  some (.inr x60))
  else (
  (chk (x60 + 1)).bind fun _ =>
  (chk (x61 + (x2.size : Int))).bind fun _ =>
  (sCut x59 (x61 + (x2.size : Int)) (x59.size : Int)).bind fun q66 =>
  some (.inl (q66, x60 + 1)))

/-- strings.Count -/
noncomputable def mStringsCount (x1 : ByteArray) (x2 : ByteArray) : Option (Int) :=
  if (x2.size : Int) = 0 then (
  none)
  else (
  if (x2.size : Int) = 1 then (
  (sIdx x2 0).bind fun x38 =>
  some (sCount x1 x38))
  else (
  loopM (mStringsCount_L40 x2) (x1, 0)))

noncomputable def mStringsGenSplit_L419 (x1 : ByteArray) (x2 : ByteArray) (x3 : Int) (x291 : Int) : (ByteArray × Int × (List ByteArray)) → Option ((ByteArray × Int × (List ByteArray)) ⊕ (ByteArray × Int × (List ByteArray))) := unc3 fun x490 x491 l492 =>
  if x491 < ((min x291 ((x1.size : Int) + 1)) - 1) then (
  (mStringsIndex x490 x2).bind fun x495 =>
  if x495 < 0 then (
  some (.inr (x490, x491, l492)))
  else (
  (chk (x495 + x3)).bind fun _ =>
  (sCut x490 0 (x495 + x3)).bind fun q499 =>
  (idx l492 x491).bind fun _ =>
  (chk (x495 + (x2.size : Int))).bind fun _ =>
  (sCut x490 (x495 + (x2.size : Int)) (x490.size : Int)).bind fun q520 =>
  (chk (x491 + 1)).bind fun _ =>
  some (.inl (q520, x491 + 1, put l492 x491 q499))))
  else (
  some (.inr (x490, x491, l492)))

/-- strings.genSplit -/
noncomputable def mStringsGenSplit (x1 : ByteArray) (x2 : ByteArray) (x3 : Int) (x4 : Int) : Option ((List ByteArray)) :=
  if x4 = 0 then (
  some [])
  else (
  if (sEq x2 (ByteArray.mk #[])) = true then (
  none)
  else (
  (if x4 < 0 then (
  (mStringsCount x1 x2).bind fun x294 =>
  (chk (x294 + 1)).bind fun _ =>
  some (x294 + 1))
  else (
  some x4)).bind (fun x291 =>
  (chk ((x1.size : Int) + 1)).bind fun _ =>
  (mkLen 16 (min x291 ((x1.size : Int) + 1))).bind fun m298 =>
  (chk ((min x291 ((x1.size : Int) + 1)) - 1)).bind fun _ =>
  (loopM (mStringsGenSplit_L419 x1 x2 x3 x291) (x1, 0, List.replicate m298 (ByteArray.empty : ByteArray))).bind (unc3 fun x414 x415 l416 =>
  (idx l416 x415).bind fun _ =>
  (chk (x415 + 1)).bind fun _ =>
  (cutS (put l416 x415 x414) 0 (x415 + 1)).bind fun l542 =>
  some l542))))

/-- strings.Split -/
noncomputable def mStringsSplit (x1 : ByteArray) (x2 : ByteArray) : Option ((List ByteArray)) :=
  (mStringsGenSplit x1 x2 0 (-1)).bind fun l17 =>
  some l17

noncomputable def mLineLines_L155 (l147 : (List ByteArray)) (k240 : Nat) : ((List (List ByteArray))) → Option ((List (List ByteArray))) := fun l239 =>
  (idx l147 (k240 : Int)).bind fun x243 =>
  (mStringsSplit x243 (ByteArray.mk #[32])).bind fun l259 =>
  (room 24 (l239.length + 1)).bind fun _ =>
  some (l239 ++ [l259])

/-- fishplate/line.Lines -/
noncomputable def mLineLines (x1 : ByteArray) : Option (Bool × (List (List ByteArray))) :=
  if (sEq x1 (ByteArray.mk #[])) = true then (
  some (true, []))
  else (
  (mStringsCutSuffix x1 (ByteArray.mk #[10])).bind (unc2 fun x144 x145 =>
  (mStringsSplit x144 (ByteArray.mk #[10])).bind fun l147 =>
  (forS (mLineLines_L155 l147) l147.length 0 ([] : (List (List ByteArray)))).bind (fun l239 =>
  some (x145, l239))))

noncomputable def mLineName_L75 (x1 : ByteArray) (k96 : Nat) : (Unit) → Option ((Unit) ⊕ (Bool)) := fun _ =>
  (idx (sBytes x1) (k96 : Int)).bind fun x100 =>
  (if x100 < 97 then (
  some true)
  else (
  some (decide (122 < x100)))).bind (fun x113 =>
  if x113 = true then (
  some (.inr false))
  else (
  some (.inl ())))

/-- fishplate/line.name -/
noncomputable def mLineName (x1 : ByteArray) : Option (Bool) :=
  (chk (x1.size : Int)).bind fun _ =>
  (forM (mLineName_L75 x1) ((sBytes x1).length) 0 ()).bind fun t => Sum.elim (fun _ =>
  (if 1 ≤ (x1.size : Int) then (
  some (decide ((x1.size : Int) ≤ 12)))
  else (
  some false)).bind (fun x122 =>
  some x122)) (fun q => some q) t

noncomputable def mSlicesIndex_L39 (l4 : (List ByteArray)) (x5 : ByteArray) (k54 : Nat) : (Unit) → Option ((Unit) ⊕ (Int)) := fun _ =>
  (idx l4 (k54 : Int)).bind fun x58 =>
  if (sEq x5 x58) = true then (
  some (.inr (k54 : Int)))
  else (
  some (.inl ()))

/-- slices.Index[[]string,string] -/
noncomputable def mSlicesIndex (l4 : (List ByteArray)) (x5 : ByteArray) : Option (Int) :=
  (forM (mSlicesIndex_L39 l4 x5) l4.length 0 ()).bind fun t => Sum.elim (fun _ =>
  some (-1)) (fun q => some q) t

/-- slices.Contains[[]string,string] -/
noncomputable def mSlicesContains (l4 : (List ByteArray)) (x5 : ByteArray) : Option (Bool) :=
  (mSlicesIndex l4 x5).bind fun x9 =>
  some (decide (0 ≤ x9))

/-- fishplate/line.ends -/
noncomputable def mLineEnds (x1 : Int) : Option (Int) :=
  if x1 = 1 then (
  some 2)
  else (
  if x1 = 2 then (
  some 3)
  else (
  if x1 = 3 then (
  some 4)
  else (
  some 0)))

/-- fishplate/line.within -/
noncomputable def mLineWithin (x1 : Int) (x2 : Int) (x3 : Int) : Option (Bool) :=
  (if x2 ≤ x1 then (
  some (decide (x1 ≤ x3)))
  else (
  some false)).bind (fun x14 =>
  some x14)

/-- fishplate/line.checkSection -/
noncomputable def mLineCheckSection (s1 : ApiSection) (x2 : Int) : Option (Int) :=
  (mLineEnds s1.Kind).bind fun x80 =>
  if x80 = 0 then (
  some 1)
  else (
  ((mLineWithin s1.Length 10 3000).bind fun x95 =>
  if x95 = true then (
  (mLineWithin s1.Grade (-40) 40).bind fun x98 =>
  if x98 = true then (
  (mLineWithin s1.Speed 300 6000).bind fun x101 =>
  some (!x101))
  else (
  some true))
  else (
  some true)).bind (fun x93 =>
  if x93 = true then (
  some 2)
  else (
  (if s1.Kind = 2 then (
  (mLineWithin s1.Slow 300 s1.Speed).bind fun x119 =>
  if x119 = true then (
  if s1.Kind = 1 then (
  (mLineWithin s1.Station 0 x2).bind fun x123 =>
  some (!x123))
  else (
  some false))
  else (
  some true))
  else (
  if s1.Kind = 1 then (
  (mLineWithin s1.Station 0 x2).bind fun x126 =>
  some (!x126))
  else (
  some false))).bind (fun x116 =>
  if x116 = true then (
  some 2)
  else (
  (if s1.Slow ≠ 0 then (
  if s1.Kind = 2 then (
  if s1.Station ≠ 0 then (
  if s1.Kind = 1 then (
  if s1.Grade ≠ 0 then (
  some (decide (s1.Kind = 3)))
  else (
  some false))
  else (
  some true))
  else (
  if s1.Grade ≠ 0 then (
  some (decide (s1.Kind = 3)))
  else (
  some false)))
  else (
  some true))
  else (
  if s1.Station ≠ 0 then (
  if s1.Kind = 1 then (
  if s1.Grade ≠ 0 then (
  some (decide (s1.Kind = 3)))
  else (
  some false))
  else (
  some true))
  else (
  if s1.Grade ≠ 0 then (
  some (decide (s1.Kind = 3)))
  else (
  some false)))).bind (fun x141 =>
  if x141 = true then (
  some 1)
  else (
  some 0)))))))

/-- fishplate/line.has -/
noncomputable def mLineHas (s1 : ApiNet) (s17 : LineEnd) : Option (Bool) :=
  ((chk ((s1.Sections.length : Int) - 1)).bind fun _ =>
  (mLineWithin s17.section_ 0 ((s1.Sections.length : Int) - 1)).bind fun x165 =>
  if x165 = true then (
  (idx s1.Sections s17.section_).bind fun x168 =>
  (mLineEnds x168.Kind).bind fun x178 =>
  (chk (x178 - 1)).bind fun _ =>
  (mLineWithin s17.end_ 0 (x178 - 1)).bind fun x181 =>
  some x181)
  else (
  some false)).bind (fun x143 =>
  some x143)

/-- cmp.isNaN[int] -/
noncomputable def mCmpIsNaN (x1 : Int) : Option (Bool) :=
  some (decide (x1 ≠ x1))

/-- cmp.Compare[int] -/
noncomputable def mCmpCompare (x1 : Int) (x2 : Int) : Option (Int) :=
  (mCmpIsNaN x1).bind fun x13 =>
  (mCmpIsNaN x2).bind fun x15 =>
  if x13 = true then (
  if x15 = true then (
  some 0)
  else (
  some (-1)))
  else (
  if x15 = true then (
  some 1)
  else (
  if x1 < x2 then (
  some (-1))
  else (
  if x2 < x1 then (
  some 1)
  else (
  some 0))))

noncomputable def mCmpOr_L38 (l4 : (List Int)) (k53 : Nat) : (Unit) → Option ((Unit) ⊕ (Int)) := fun _ =>
  (idx l4 (k53 : Int)).bind fun x57 =>
  if x57 ≠ 0 then (
  some (.inr x57))
  else (
  some (.inl ()))

/-- cmp.Or[int] -/
noncomputable def mCmpOr (l4 : (List Int)) : Option (Int) :=
  (forM (mCmpOr_L38 l4) l4.length 0 ()).bind fun t => Sum.elim (fun _ =>
  some 0) (fun q => some q) t

noncomputable def mLineCheckLinks_L643 (s1 : ApiNet) (k1051 : Nat) : ((List (LineEnd × Bool))) → Option (((List (LineEnd × Bool))) ⊕ (Int)) := fun l1050 =>
  (idx s1.Links (k1051 : Int)).bind fun x1055 =>
  (some ()).bind (fun _ =>
  ((mLineHas s1 (⟨x1055.A, x1055.EndA⟩ : LineEnd)).bind fun x1088 =>
  if x1088 = true then (
  (mLineHas s1 (⟨x1055.B, x1055.EndB⟩ : LineEnd)).bind fun x1091 =>
  some (!x1091))
  else (
  some true)).bind (fun x1086 =>
  if x1086 = true then (
  some (.inr 3))
  else (
  if x1055.A = x1055.B then (
  some (.inr 1))
  else (
  if x1055.B < x1055.A then (
  some (.inr 5))
  else (
  (if 0 < (k1051 : Int) then (
  (chk ((k1051 : Int) - 1)).bind fun _ =>
  (idx s1.Links ((k1051 : Int) - 1)).bind fun x1159 =>
  ((mCmpCompare x1159.A x1055.A).bind fun x1201 =>
  (mCmpCompare x1159.EndA x1055.EndA).bind fun x1203 =>
  (mCmpOr [x1201, x1203]).bind fun x1208 =>
  some (decide (0 ≤ x1208))).bind (fun x1190 =>
  if x1190 = true then (
  some (.inr (.inr 5)))
  else (
  some (.inl ()))))
  else (
  some (.inl ()))).bind fun t => Sum.elim (fun _ =>
  ((some (mgetD l1050 (⟨x1055.A, x1055.EndA⟩ : LineEnd) false)).bind fun x1234 =>
  if x1234 = true then (
  some true)
  else (
  (some (mgetD l1050 (⟨x1055.B, x1055.EndB⟩ : LineEnd) false)).bind fun x1241 =>
  some x1241)).bind (fun x1229 =>
  if x1229 = true then (
  some (.inr 6))
  else (
  some (.inl (mput (mput l1050 (⟨x1055.A, x1055.EndA⟩ : LineEnd) true) (⟨x1055.B, x1055.EndB⟩ : LineEnd) true))))) (fun r1258 => some r1258) t)))))

/-- fishplate/line.checkLinks -/
noncomputable def mLineCheckLinks (s1 : ApiNet) : Option (Int) :=
  (forM (mLineCheckLinks_L643 s1) s1.Links.length 0 (([] : (List (LineEnd × Bool))) : (List (LineEnd × Bool)))).bind fun t => Sum.elim (fun _ =>
  some 0) (fun q => some q) t

noncomputable def mLineJoined_L88 (s1 : ApiNet) (s17 : LineEnd) (k117 : Nat) : (Unit) → Option ((Unit) ⊕ (Int × Int × Bool)) := fun _ =>
  (idx s1.Links (k117 : Int)).bind fun x121 =>
  (if x121.A = s17.section_ then (
  some (decide (x121.EndA = s17.end_)))
  else (
  some false)).bind (fun x135 =>
  if x135 = true then (
  some (.inr (x121.B, x121.EndB, true)))
  else (
  (if x121.B = s17.section_ then (
  some (decide (x121.EndB = s17.end_)))
  else (
  some false)).bind (fun x143 =>
  if x143 = true then (
  some (.inr (x121.A, x121.EndA, true)))
  else (
  some (.inl ())))))

/-- fishplate/line.joined -/
noncomputable def mLineJoined (s1 : ApiNet) (s17 : LineEnd) : Option (Int × Int × Bool) :=
  (forM (mLineJoined_L88 s1 s17) s1.Links.length 0 ()).bind fun t => Sum.elim (fun _ =>
  some (0, 0, false)) (fun q => some q) t

noncomputable def mLineCheckSignals_L238 (s1 : ApiNet) (k345 : Nat) : (Unit) → Option ((Unit) ⊕ (Int)) := fun _ =>
  (idx s1.Signals (k345 : Int)).bind fun x349 =>
  (mLineHas s1 (⟨x349.Section, x349.End⟩ : LineEnd)).bind fun x361 =>
  if x361 = true then (
  (mLineJoined s1 (⟨x349.Section, x349.End⟩ : LineEnd)).bind (unc3 fun _ _ x367 =>
  (if x367 = true then (
  (idx s1.Sections x349.Section).bind fun x388 =>
  some (decide (x388.Kind ≠ 1)))
  else (
  some true)).bind (fun x385 =>
  if x385 = true then (
  some (.inr 1))
  else (
  if 0 < (k345 : Int) then (
  (chk ((k345 : Int) - 1)).bind fun _ =>
  (idx s1.Signals ((k345 : Int) - 1)).bind fun x402 =>
  ((mCmpCompare x402.Section x349.Section).bind fun x444 =>
  (mCmpCompare x402.End x349.End).bind fun x446 =>
  (mCmpOr [x444, x446]).bind fun x451 =>
  some (decide (0 ≤ x451))).bind (fun x433 =>
  if x433 = true then (
  some (.inr 5))
  else (
  some (.inl ()))))
  else (
  some (.inl ()))))))
  else (
  some (.inr 3))

/-- fishplate/line.checkSignals -/
noncomputable def mLineCheckSignals (s1 : ApiNet) : Option (Int) :=
  (forM (mLineCheckSignals_L238 s1) s1.Signals.length 0 ()).bind fun t => Sum.elim (fun _ =>
  some 0) (fun q => some q) t

noncomputable def mLineCheckGates_L197 (s1 : ApiNet) (k283 : Nat) : (Unit) → Option ((Unit) ⊕ (Int)) := fun _ =>
  (idx s1.Gates (k283 : Int)).bind fun x287 =>
  (chk ((s1.Sections.length : Int) - 1)).bind fun _ =>
  (mLineWithin x287.Section 0 ((s1.Sections.length : Int) - 1)).bind fun x299 =>
  if x299 = true then (
  (idx s1.Sections x287.Section).bind fun x303 =>
  if x303.Kind ≠ 1 then (
  some (.inr 1))
  else (
  (mLineWithin x287.Close 1 12).bind fun x315 =>
  if x315 = true then (
  (if 0 < (k283 : Int) then (
  (chk ((k283 : Int) - 1)).bind fun _ =>
  (idx s1.Gates ((k283 : Int) - 1)).bind fun x361 =>
  some (decide (x287.Section ≤ x361.Section)))
  else (
  some false)).bind (fun x345 =>
  if x345 = true then (
  some (.inr 5))
  else (
  some (.inl ()))))
  else (
  some (.inr 2))))
  else (
  some (.inr 3))

/-- fishplate/line.checkGates -/
noncomputable def mLineCheckGates (s1 : ApiNet) : Option (Int) :=
  (forM (mLineCheckGates_L197 s1) s1.Gates.length 0 ()).bind fun t => Sum.elim (fun _ =>
  some 0) (fun q => some q) t

noncomputable def mLineCheck_L305 (s1 : ApiNet) (k320 : Nat) : (Unit) → Option ((Unit) ⊕ (Int)) := fun _ =>
  if (k320 : Int) = (0 : Int) then (
  (mLineCheckLinks s1).bind fun x325 =>
  if x325 ≠ 0 then (
  some (.inr x325))
  else (
  some (.inl ())))
  else (
  if (k320 : Int) = (1 : Int) then (
  (mLineCheckSignals s1).bind fun x330 =>
  if x330 ≠ 0 then (
  some (.inr x330))
  else (
  some (.inl ())))
  else (
  if (k320 : Int) = (2 : Int) then (
  (mLineCheckGates s1).bind fun x335 =>
  if x335 ≠ 0 then (
  some (.inr x335))
  else (
  some (.inl ())))
  else (
  none)))

noncomputable def mLineCheck_L267 (s1 : ApiNet) (k285 : Nat) : (Unit) → Option ((Unit) ⊕ (Int)) := fun _ =>
  (idx s1.Sections (k285 : Int)).bind fun x289 =>
  (mLineCheckSection x289 (s1.Stations.length : Int)).bind fun x300 =>
  if x300 ≠ 0 then (
  some (.inr x300))
  else (
  some (.inl ()))

noncomputable def mLineCheck_L194 (s1 : ApiNet) (k229 : Nat) : (Unit) → Option ((Unit) ⊕ (Int)) := fun _ =>
  (idx s1.Stations (k229 : Int)).bind fun x233 =>
  (mLineName x233).bind fun x243 =>
  if x243 = true then (
  (cutS s1.Stations 0 (k229 : Int)).bind fun l247 =>
  (mSlicesContains l247 x233).bind fun x262 =>
  if x262 = true then (
  some (.inr 6))
  else (
  some (.inl ())))
  else (
  some (.inr 1))

/-- fishplate/line.Check -/
noncomputable def mLineCheck (s1 : ApiNet) : Option (Int) :=
  if (s1.Sections.length : Int) = 0 then (
  some 1)
  else (
  (if 12 < (s1.Stations.length : Int) then (
  some true)
  else (
  if 60 < (s1.Sections.length : Int) then (
  some true)
  else (
  if 90 < (s1.Links.length : Int) then (
  some true)
  else (
  if 40 < (s1.Signals.length : Int) then (
  some true)
  else (
  some (decide (8 < (s1.Gates.length : Int)))))))).bind (fun x187 =>
  if x187 = true then (
  some 4)
  else (
  (forM (mLineCheck_L194 s1) s1.Stations.length 0 ()).bind fun t => Sum.elim (fun _ =>
  (forM (mLineCheck_L267 s1) s1.Sections.length 0 ()).bind fun t => Sum.elim (fun _ =>
  (forM (mLineCheck_L305 s1) 3 0 ()).bind fun t => Sum.elim (fun _ =>
  some 0) (fun q => some q) t) (fun q => some q) t) (fun q => some q) t)))

noncomputable def mLineRead_L104 (l94 : (List (List ByteArray))) (k127 : Nat) : (Unit) → Option ((Unit) ⊕ ((List ByteArray) × (List ApiSection) × (List ApiLink) × (List ApiSignal) × (List ApiGate) × Int)) := fun _ =>
  (idx l94 (k127 : Int)).bind fun _ =>
  none

/-- fishplate/line.Read -/
noncomputable def mLineRead (x1 : ByteArray) : Option ((List ByteArray) × (List ApiSection) × (List ApiLink) × (List ApiSignal) × (List ApiGate) × Int) :=
  if 20000 < (x1.size : Int) then (
  some ([], [], [], [], [], 4))
  else (
  (mLineLines x1).bind (unc2 fun x93 l94 =>
  if x93 = true then (
  (forM (mLineRead_L104 l94) l94.length 0 ()).bind fun t => Sum.elim (fun _ =>
  (mLineCheck (⟨[], [], [], [], []⟩ : ApiNet)).bind fun x151 =>
  if x151 ≠ 0 then (
  some ([], [], [], [], [], x151))
  else (
  some ([], [], [], [], [], 0))) (fun q => some q) t)
  else (
  some ([], [], [], [], [], 10))))

/-- fishplate/fishkeep1.awakeLine -/
noncomputable def mFishkeep1AwakeLine : Option (Bool) :=
  (mLineRead (ByteArray.mk #[120])).bind (unc6 fun _ _ _ _ _ x37 =>
  some (decide (x37 ≠ 0)))

/-- fishplate/line.outs -/
noncomputable def mLineOuts (x1 : Int) (x2 : Int) : Option ((List Int)) :=
  (if x1 = 2 then (
  some (decide (x2 = 0)))
  else (
  some false)).bind (fun x42 =>
  if x42 = true then (
  some [1, 2])
  else (
  if x1 = 2 then (
  some [0])
  else (
  some [xorI .i64 x2 1])))

/-- fishplate/line.walk -/
noncomputable def mLineWalk (s1 : ApiNet) (s17 : LineEnd) : Option ((List ApiStep)) :=
  (mLineJoined s1 s17).bind (unc3 fun x y q => if q = true then (idx s1.Sections x).bind fun p => (mLineOuts p.Kind y).bind fun o => some (o.map fun k => (⟨x, y, k⟩ : ApiStep)) else some [])

/-- fishplate/line.stands-1 -/
noncomputable def mLineStands_1 (s2 : ApiStep) (x3 : Int) : Option (Bool) :=
  some (decide (s2.Section = x3))

noncomputable def mSlicesIndexFunc_L48 (l5 : (List ApiStep)) (x6 : Int) (k67 : Nat) : (Unit) → Option ((Unit) ⊕ (Int)) := fun _ =>
  (idx l5 (k67 : Int)).bind fun x71 =>
  (mLineStands_1 x71 x6).bind fun x81 =>
  if x81 = true then (
  some (.inr (k67 : Int)))
  else (
  some (.inl ()))

/-- slices.IndexFunc[[]fishplate/api.Step,fishplate/api.Step] -/
noncomputable def mSlicesIndexFunc (l5 : (List ApiStep)) (x6 : Int) : Option (Int) :=
  (forM (mSlicesIndexFunc_L48 l5 x6) l5.length 0 ()).bind fun t => Sum.elim (fun _ =>
  some (-1)) (fun q => some q) t

/-- slices.ContainsFunc[[]fishplate/api.Step,fishplate/api.Step] -/
noncomputable def mSlicesContainsFunc (l5 : (List ApiStep)) (x6 : Int) : Option (Bool) :=
  (mSlicesIndexFunc l5 x6).bind fun x12 =>
  some (decide (0 ≤ x12))

/-- fishplate/line.stands -/
noncomputable def mLineStands (l4 : (List ApiStep)) (x5 : Int) : Option (Bool) :=
  (mSlicesContainsFunc l4 x5).bind fun x13 =>
  some x13

/-- (*fishplate/line.finder).count -/
noncomputable def mLineFinderCount (_l10 : (List ByteArray)) (_l14 : (List ApiSection)) (_l18 : (List ApiLink)) (_l22 : (List ApiSignal)) (_l26 : (List ApiGate)) (x27 : Int) (x28 : Bool) (_l29 : (List ApiRoute)) : Option (Int × Bool) :=
  (chk (x27 + 1)).bind fun _ =>
  if x28 = true then (
  some (x27 + 1, true))
  else (
  some (x27 + 1, decide (80 < (x27 + 1))))

/-- slices.Clone[[]fishplate/api.Step,fishplate/api.Step] -/
noncomputable def mSlicesClone (l4 : (List ApiStep)) : Option ((List ApiStep)) :=
  (room 24 l4.length).bind fun _ => some l4

noncomputable def mSlicesIndex_2_L61 (l4 : (List ApiSignal)) (s5 : ApiSignal) (k86 : Nat) : (Unit) → Option ((Unit) ⊕ (Int)) := fun _ =>
  (idx l4 (k86 : Int)).bind fun x100 =>
  if s5.Section = x100.Section ∧ s5.End = x100.End then (
  some (.inr (k86 : Int)))
  else (
  some (.inl ()))

/-- slices.Index[[]fishplate/api.Signal,fishplate/api.Signal] -/
noncomputable def mSlicesIndex_2 (l4 : (List ApiSignal)) (s5 : ApiSignal) : Option (Int) :=
  (forM (mSlicesIndex_2_L61 l4 s5) l4.length 0 ()).bind fun t => Sum.elim (fun _ =>
  some (-1)) (fun q => some q) t

/-- fishplate/line.signal -/
noncomputable def mLineSignal (s1 : ApiNet) (s17 : LineEnd) : Option (Int) :=
  (mSlicesIndex_2 s1.Signals (⟨s17.section_, s17.end_⟩ : ApiSignal)).bind fun x25 =>
  some x25

noncomputable def mLineFinderGrow_2_L1422 (l17 : (List ByteArray)) (l21 : (List ApiSection)) (l25 : (List ApiLink)) (l29 : (List ApiSignal)) (l33 : (List ApiGate)) (l36 : (List ApiStep)) (x12 : Int) (x1386 : Int) (rcmLineFinderGrow_2 : (Int) → (LineEnd) → ((List ByteArray)) → ((List ApiSection)) → ((List ApiLink)) → ((List ApiSignal)) → ((List ApiGate)) → (Int) → (Bool) → ((List ApiStep)) → ((List ApiRoute)) → Option (Int × Bool × (List ApiRoute))) (x1827 : ApiStep) : (Int × Bool × (List ApiRoute)) → Option ((Int × Bool × (List ApiRoute)) ⊕ (Int × Bool × (List ApiRoute))) := unc3 fun x1817 x1818 l1819 =>
  if x1818 = true then (
  some (.inr (x1817, x1818, l1819)))
  else (
  (if x1827.Section = x1386 then (
  some true)
  else (
  (mLineStands l36 x1827.Section).bind fun x1842 =>
  some x1842)).bind (fun x1839 =>
  if x1839 = true then (
  (mLineFinderCount l17 l21 l25 l29 l33 x1817 x1818 l1819).bind (unc2 fun x1845 x1846 =>
  some (.inr (x1845, x1846, l1819))))
  else (
  ((mSlicesClone l36).bind fun l1904 =>
  (room 24 (l1904.length + 1)).bind fun _ =>
  some (l1904 ++ [x1827])).bind (fun l1887 =>
  if 16 < (l1887.length : Int) then (
  some (.inr (x1817, true, l1819)))
  else (
  (mLineSignal (⟨l17, l21, l25, l29, l33⟩ : ApiNet) (⟨x1827.Section, x1827.Out⟩ : LineEnd)).bind fun x1924 =>
  ((mLineJoined (⟨l17, l21, l25, l29, l33⟩ : ApiNet) (⟨x1827.Section, x1827.Out⟩ : LineEnd)).bind (unc3 fun _ _ x1953 =>
  some x1953)).bind (fun x1942 =>
  (if x1942 = true then (
  some (decide (x1924 < 0)))
  else (
  some false)).bind (fun x1961 =>
  if x1961 = true then (
  (rcmLineFinderGrow_2 x12 (⟨x1827.Section, x1827.Out⟩ : LineEnd) l17 l21 l25 l29 l33 x1817 x1818 l1887 l1819).bind (unc3 fun x1965 x1966 l1967 =>
  some (.inl (x1965, x1966, l1967))))
  else (
  ((room 40 (l1819.length + 1)).bind fun _ =>
  some (l1819 ++ [(⟨x12, x1924, l1887⟩ : ApiRoute)])).bind (fun l2000 =>
  (mLineFinderCount l17 l21 l25 l29 l33 x1817 x1818 l2000).bind (unc2 fun x2020 x2021 =>
  some (.inl (x2020, x2021, l2000))))))))))))

/-- (*fishplate/line.finder).grow -/
noncomputable def mLineFinderGrow_2 : Nat → (Int) → (LineEnd) → ((List ByteArray)) → ((List ApiSection)) → ((List ApiLink)) → ((List ApiSignal)) → ((List ApiGate)) → (Int) → (Bool) → ((List ApiStep)) → ((List ApiRoute)) → Option (Int × Bool × (List ApiRoute))
  | 0 => fun _ _ _ _ _ _ _ _ _ _ _ => none
  | N + 1 => fun x12 s13 l17 l21 l25 l29 l33 x34 x35 l36 l38 =>
  ((idx l29 x12).bind fun x1399 =>
  some x1399.Section).bind (fun x1386 =>
  (mLineWalk (⟨l17, l21, l25, l29, l33⟩ : ApiNet) s13).bind fun l1416 =>
  (forL (mLineFinderGrow_2_L1422 l17 l21 l25 l29 l33 l36 x12 x1386 (mLineFinderGrow_2 N)) l1416 (x34, x35, l38)).bind fun t => Sum.elim (unc3 fun x1817 x1818 l1819 =>
  some (x1817, x1818, l1819)) (fun q => some q) t)

noncomputable def mLineFinderGrow_L777 (x7 : Int) (l11 : (List ApiStep)) (l16 : (List ByteArray)) (l20 : (List ApiSection)) (l24 : (List ApiLink)) (l28 : (List ApiSignal)) (l32 : (List ApiGate)) (x741 : Int) (x1182 : ApiStep) : (Int × Bool × (List ApiRoute)) → Option ((Int × Bool × (List ApiRoute)) ⊕ (Int × Bool × (List ApiRoute))) := unc3 fun x1172 x1173 l1174 =>
  if x1173 = true then (
  some (.inr (x1172, x1173, l1174)))
  else (
  (if x1182.Section = x741 then (
  some true)
  else (
  (mLineStands l11 x1182.Section).bind fun x1197 =>
  some x1197)).bind (fun x1194 =>
  if x1194 = true then (
  (mLineFinderCount l16 l20 l24 l28 l32 x1172 x1173 l1174).bind (unc2 fun x1200 x1201 =>
  some (.inr (x1200, x1201, l1174))))
  else (
  ((mSlicesClone l11).bind fun l1259 =>
  (room 24 (l1259.length + 1)).bind fun _ =>
  some (l1259 ++ [x1182])).bind (fun l1242 =>
  if 16 < (l1242.length : Int) then (
  some (.inr (x1172, true, l1174)))
  else (
  (mLineSignal (⟨l16, l20, l24, l28, l32⟩ : ApiNet) (⟨x1182.Section, x1182.Out⟩ : LineEnd)).bind fun x1279 =>
  ((mLineJoined (⟨l16, l20, l24, l28, l32⟩ : ApiNet) (⟨x1182.Section, x1182.Out⟩ : LineEnd)).bind (unc3 fun _ _ x1308 =>
  some x1308)).bind (fun x1297 =>
  (if x1297 = true then (
  some (decide (x1279 < 0)))
  else (
  some false)).bind (fun x1316 =>
  if x1316 = true then (
  (lim (fun N => mLineFinderGrow_2 N x7 (⟨x1182.Section, x1182.Out⟩ : LineEnd) l16 l20 l24 l28 l32 x1172 x1173 l1242 l1174)).bind (unc3 fun x1320 x1321 l1322 =>
  some (.inl (x1320, x1321, l1322))))
  else (
  ((room 40 (l1174.length + 1)).bind fun _ =>
  some (l1174 ++ [(⟨x7, x1279, l1242⟩ : ApiRoute)])).bind (fun l1355 =>
  (mLineFinderCount l16 l20 l24 l28 l32 x1172 x1173 l1355).bind (unc2 fun x1375 x1376 =>
  some (.inl (x1375, x1376, l1355))))))))))))

/-- (*fishplate/line.finder).grow -/
noncomputable def mLineFinderGrow (x7 : Int) (l11 : (List ApiStep)) (s12 : LineEnd) (l16 : (List ByteArray)) (l20 : (List ApiSection)) (l24 : (List ApiLink)) (l28 : (List ApiSignal)) (l32 : (List ApiGate)) (x33 : Int) (x34 : Bool) (l35 : (List ApiRoute)) : Option (Int × Bool × (List ApiRoute)) :=
  ((idx l28 x7).bind fun x754 =>
  some x754.Section).bind (fun x741 =>
  (mLineWalk (⟨l16, l20, l24, l28, l32⟩ : ApiNet) s12).bind fun l771 =>
  (forL (mLineFinderGrow_L777 x7 l11 l16 l20 l24 l28 l32 x741) l771 (x33, x34, l35)).bind fun t => Sum.elim (unc3 fun x1172 x1173 l1174 =>
  some (x1172, x1173, l1174)) (fun q => some q) t)

noncomputable def mLineRoutes_2_L121 (s1 : ApiNet) (k187 : Nat) : (Int × Bool × (List ApiRoute)) → Option (Int × Bool × (List ApiRoute)) := unc3 fun x183 x184 l185 =>
  (idx s1.Signals (k187 : Int)).bind fun x190 =>
  (mLineFinderGrow (k187 : Int) [] (⟨x190.Section, x190.End⟩ : LineEnd) s1.Stations s1.Sections s1.Links s1.Signals s1.Gates x183 x184 l185).bind (unc3 fun x201 x202 l203 =>
  some (x201, x202, l203))

/-- fishplate/line.routes -/
noncomputable def mLineRoutes_2 (s1 : ApiNet) : Option (Int × (List ApiRoute)) :=
  (forS (mLineRoutes_2_L121 s1) s1.Signals.length 0 ((0, false, []) : Int × Bool × (List ApiRoute))).bind (unc3 fun _ x184 l185 =>
  if x184 = true then (
  some (4, []))
  else (
  some (0, l185)))

/-- fishplate/line.Routes -/
noncomputable def mLineRoutes (s1 : ApiNet) : Option (Int × (List ApiRoute)) :=
  (mLineCheck s1).bind fun x40 =>
  if x40 ≠ 0 then (
  some (x40, []))
  else (
  (mLineRoutes_2 s1).bind (unc2 fun x43 l44 =>
  some (x43, l44)))

noncomputable def mSlicesIndex_3_L39 (l4 : (List Int)) (x5 : Int) (k54 : Nat) : (Unit) → Option ((Unit) ⊕ (Int)) := fun _ =>
  (idx l4 (k54 : Int)).bind fun x58 =>
  if x5 = x58 then (
  some (.inr (k54 : Int)))
  else (
  some (.inl ()))

/-- slices.Index[[]int,int] -/
noncomputable def mSlicesIndex_3 (l4 : (List Int)) (x5 : Int) : Option (Int) :=
  (forM (mSlicesIndex_3_L39 l4 x5) l4.length 0 ()).bind fun t => Sum.elim (fun _ =>
  some (-1)) (fun q => some q) t

/-- slices.Contains[[]int,int] -/
noncomputable def mSlicesContains_2 (l4 : (List Int)) (x5 : Int) : Option (Bool) :=
  (mSlicesIndex_3 l4 x5).bind fun x9 =>
  some (decide (0 ≤ x9))

noncomputable def mLineCheckPath_L591 (s1 : ApiNet) (l20 : (List ApiStep)) (k957 : Nat) : ((List (Int × Bool))) → Option (((List (Int × Bool))) ⊕ (Int)) := fun l956 =>
  (idx l20 (k957 : Int)).bind fun x961 =>
  ((mLineHas s1 (⟨x961.Section, x961.In⟩ : LineEnd)).bind fun x981 =>
  if x981 = true then (
  (mLineHas s1 (⟨x961.Section, x961.Out⟩ : LineEnd)).bind fun x984 =>
  some (!x984))
  else (
  some true)).bind (fun x979 =>
  if x979 = true then (
  some (.inr 3))
  else (
  ((idx s1.Sections x961.Section).bind fun x1049 =>
  (mLineOuts x1049.Kind x961.In).bind fun l1059 =>
  (mSlicesContains_2 l1059 x961.Out).bind fun x1066 =>
  some (!x1066)).bind (fun x1028 =>
  if x1028 = true then (
  some (.inr 1))
  else (
  (if 0 < (k957 : Int) then (
  (chk ((k957 : Int) - 1)).bind fun _ =>
  (idx l20 ((k957 : Int) - 1)).bind fun x1103 =>
  (mLineJoined s1 (⟨x1103.Section, x1103.Out⟩ : LineEnd)).bind (unc3 fun x1114 x1115 x1116 =>
  (if x1116 = true then (
  some (!(decide (x1114 = x961.Section ∧ x1115 = x961.In))))
  else (
  some true)).bind (fun x1124 =>
  if x1124 = true then (
  some (.inr (.inr 5)))
  else (
  some (.inl ())))))
  else (
  some (.inl ()))).bind fun t => Sum.elim (fun _ =>
  (some (mgetD l956 x961.Section false)).bind fun x1134 =>
  if x1134 = true then (
  some (.inr 6))
  else (
  some (.inl (mput l956 x961.Section true)))) (fun r1142 => some r1142) t))))

/-- fishplate/line.CheckPath -/
noncomputable def mLineCheckPath (s1 : ApiNet) (l20 : (List ApiStep)) : Option (Int) :=
  (mLineCheck s1).bind fun x584 =>
  if x584 ≠ 0 then (
  some x584)
  else (
  if 60 < (l20.length : Int) then (
  some 4)
  else (
  (forM (mLineCheckPath_L591 s1 l20) l20.length 0 (([] : (List (Int × Bool))) : (List (Int × Bool)))).bind fun t => Sum.elim (fun _ =>
  some 0) (fun q => some q) t))

/-- fishplate/line.checkEnd -/
noncomputable def mLineCheckEnd (s1 : ApiNet) (s17 : LineEnd) : Option (Int) :=
  (mLineCheck s1).bind fun x29 =>
  if x29 ≠ 0 then (
  some x29)
  else (
  (mLineHas s1 s17).bind fun x32 =>
  if x32 = true then (
  some 0)
  else (
  some 3))

/-- fishplate/line.Next -/
noncomputable def mLineNext (s1 : ApiNet) (x17 : Int) (x18 : Int) : Option (Int × Int × Int) :=
  (mLineCheckEnd s1 (⟨x17, x18⟩ : LineEnd)).bind fun x37 =>
  if x37 ≠ 0 then (
  some (0, 0, x37))
  else (
  (mLineJoined s1 (⟨x17, x18⟩ : LineEnd)).bind (unc3 fun x40 x41 x42 =>
  if x42 = true then (
  some (x40, x41, 0))
  else (
  some (0, 0, 9))))

/-- fishplate/line.SignalAt -/
noncomputable def mLineSignalAt (s1 : ApiNet) (x17 : Int) (x18 : Int) : Option (Int × Int) :=
  (mLineCheckEnd s1 (⟨x17, x18⟩ : LineEnd)).bind fun x31 =>
  if x31 ≠ 0 then (
  some (0, x31))
  else (
  (mLineSignal s1 (⟨x17, x18⟩ : LineEnd)).bind fun x34 =>
  if x34 < 0 then (
  some (0, 9))
  else (
  some (x34, 0)))

noncomputable def mFishkeep1RouteRuns_L288 (s1 : ApiNet) (s17 : ApiRoute) (x224 : ApiSignal) (k328 : Nat) : (Unit) → Option ((Unit) ⊕ (Bool)) := fun _ =>
  (idx s17.Steps (k328 : Int)).bind fun x332 =>
  (mLineSignalAt s1 x332.Section x332.Out).bind (unc2 fun x343 x344 =>
  (chk ((s17.Steps.length : Int) - 1)).bind fun _ =>
  (if x332.Section = x224.Section then (
  some true)
  else (
  if x344 = 0 then (
  if (k328 : Int) = ((s17.Steps.length : Int) - 1) then (
  if x343 ≠ s17.To then (
  some true)
  else (
  if x344 ≠ 0 then (
  if (k328 : Int) = ((s17.Steps.length : Int) - 1) then (
  some (decide (s17.To ≠ (-1))))
  else (
  some false))
  else (
  some false)))
  else (
  some true))
  else (
  if x344 ≠ 0 then (
  if (k328 : Int) = ((s17.Steps.length : Int) - 1) then (
  some (decide (s17.To ≠ (-1))))
  else (
  some false))
  else (
  some false)))).bind (fun x357 =>
  if x357 = true then (
  some (.inr false))
  else (
  some (.inl ()))))

/-- fishplate/fishkeep1.routeRuns -/
noncomputable def mFishkeep1RouteRuns (s1 : ApiNet) (s17 : ApiRoute) : Option (Bool) :=
  (if s17.From < 0 then (
  some true)
  else (
  if (s1.Signals.length : Int) ≤ s17.From then (
  some true)
  else (
  if (s17.Steps.length : Int) = 0 then (
  some true)
  else (
  (mLineCheckPath s1 s17.Steps).bind fun x221 =>
  some (decide (x221 ≠ 0)))))).bind (fun x216 =>
  if x216 = true then (
  some false)
  else (
  (idx s1.Signals s17.From).bind fun x224 =>
  (mLineNext s1 x224.Section x224.End).bind (unc3 fun x235 x236 x237 =>
  (if x237 ≠ 0 then (
  some true)
  else (
  (idx s17.Steps 0).bind fun x266 =>
  if x266.Section ≠ x235 then (
  some true)
  else (
  (idx s17.Steps 0).bind fun x277 =>
  some (decide (x277.In ≠ x236))))).bind (fun x263 =>
  if x263 = true then (
  some false)
  else (
  (forM (mFishkeep1RouteRuns_L288 s1 s17 x224) s17.Steps.length 0 ()).bind fun t => Sum.elim (fun _ =>
  (chk ((s17.Steps.length : Int) - 1)).bind fun _ =>
  (idx s17.Steps ((s17.Steps.length : Int) - 1)).bind fun x371 =>
  (mLineNext s1 x371.Section x371.Out).bind (unc3 fun _ _ x384 =>
  (if 0 ≤ s17.To then (
  some true)
  else (
  some (decide (x384 = 9)))).bind (fun x389 =>
  some x389))) (fun q => some q) t)))))

noncomputable def mFishkeep1LineRuns_L300 (s1 : ApiNet) (l290 : (List ApiRoute)) (k425 : Nat) : (Unit) → Option ((Unit) ⊕ (Bool)) := fun _ =>
  (idx l290 (k425 : Int)).bind fun x429 =>
  ((mFishkeep1RouteRuns s1 x429).bind fun x525 =>
  if x525 = true then (
  if 0 < (k425 : Int) then (
  (chk ((k425 : Int) - 1)).bind fun _ =>
  (idx l290 ((k425 : Int) - 1)).bind fun x530 =>
  some (decide (x429.From < x530.From)))
  else (
  some false))
  else (
  some true)).bind (fun x499 =>
  if x499 = true then (
  some (.inr false))
  else (
  some (.inl ())))

/-- fishplate/fishkeep1.LineRuns -/
noncomputable def mFishkeep1LineRuns (s1 : ApiNet) : Option (Bool) :=
  (mFishkeep1AwakeLine).bind fun x286 =>
  if x286 = true then (
  (mLineRoutes s1).bind (unc2 fun x289 l290 =>
  if x289 ≠ 0 then (
  some (decide ((l290.length : Int) = 0)))
  else (
  (forM (mFishkeep1LineRuns_L300 s1 l290) l290.length 0 ()).bind fun t => Sum.elim (fun _ =>
  some true) (fun q => some q) t)))
  else (
  some false)

end Go.Proofs.YtcibjjhanafojaaDoor
