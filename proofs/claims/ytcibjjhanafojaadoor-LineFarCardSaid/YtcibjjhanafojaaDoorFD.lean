/- The models of the functions, as the extractor printed them. -/
import Derived.Test.YtcibjjhanafojaaDoorXI
set_option linter.unusedVariables false
set_option linter.unusedSimpArgs false
namespace Go.Proofs.YtcibjjhanafojaaDoor
open Go.RowKit Go.Fp

structure ApiSection where
  Kind : Int
  Length : Int
  Grade : Int
  Speed : Int
  Slow : Int
  Station : Int
  Axles : Bool
  deriving DecidableEq
def rApiSection : RT ApiSection := (RT.cat (RT.on (RT.int .i64) ApiSection.Kind) (RT.cat (RT.on (RT.int .i64) ApiSection.Length) (RT.cat (RT.on (RT.int .i64) ApiSection.Grade) (RT.cat (RT.on (RT.int .i64) ApiSection.Speed) (RT.cat (RT.on (RT.int .i64) ApiSection.Slow) (RT.cat (RT.on (RT.int .i64) ApiSection.Station) (RT.on RT.bool ApiSection.Axles)))))))
structure ApiLink where
  A : Int
  EndA : Int
  B : Int
  EndB : Int
  deriving DecidableEq
def rApiLink : RT ApiLink := (RT.cat (RT.on (RT.int .i64) ApiLink.A) (RT.cat (RT.on (RT.int .i64) ApiLink.EndA) (RT.cat (RT.on (RT.int .i64) ApiLink.B) (RT.on (RT.int .i64) ApiLink.EndB))))
structure ApiSignal where
  Section : Int
  End : Int
  deriving DecidableEq
def rApiSignal : RT ApiSignal := (RT.cat (RT.on (RT.int .i64) ApiSignal.Section) (RT.on (RT.int .i64) ApiSignal.End))
structure ApiGate where
  Section : Int
  Close : Int
  deriving DecidableEq
def rApiGate : RT ApiGate := (RT.cat (RT.on (RT.int .i64) ApiGate.Section) (RT.on (RT.int .i64) ApiGate.Close))
structure ApiNet where
  Stations : (List ByteArray)
  Sections : (List ApiSection)
  Links : (List ApiLink)
  Signals : (List ApiSignal)
  Gates : (List ApiGate)
def rApiNet : RT ApiNet := (RT.cat (RT.on (RT.list RT.str) ApiNet.Stations) (RT.cat (RT.on (RT.list rApiSection) ApiNet.Sections) (RT.cat (RT.on (RT.list rApiLink) ApiNet.Links) (RT.cat (RT.on (RT.list rApiSignal) ApiNet.Signals) (RT.on (RT.list rApiGate) ApiNet.Gates)))))
structure LineEnd where
  section_ : Int
  end_ : Int
  deriving DecidableEq
def rLineEnd : RT LineEnd := (RT.cat (RT.on (RT.int .i64) LineEnd.section_) (RT.on (RT.int .i64) LineEnd.end_))

/-- internal/stringslite.HasSuffix -/
noncomputable def mStringsliteHasSuffix (x1 : ByteArray) (x2 : ByteArray) : Option (Bool) :=
  (if (x2.size : Int) ≤ (x1.size : Int) then (
  (chk ((x1.size : Int) - (x2.size : Int))).bind fun _ =>
  (sCut x1 ((x1.size : Int) - (x2.size : Int)) (x1.size : Int)).bind fun q26 =>
  some (sEq q26 x2))
  else (
  some false)).bind (fun x22 =>
  some x22)

/-- internal/stringslite.CutSuffix -/
noncomputable def mStringsliteCutSuffix (x1 : ByteArray) (x2 : ByteArray) : Option (ByteArray × Bool) :=
  (mStringsliteHasSuffix x1 x2).bind fun x11 =>
  if x11 = true then (
  (chk ((x1.size : Int) - (x2.size : Int))).bind fun _ =>
  (sCut x1 0 ((x1.size : Int) - (x2.size : Int))).bind fun q15 =>
  some (q15, true))
  else (
  some (x1, false))

/-- strings.CutSuffix -/
noncomputable def mStringsCutSuffix (x1 : ByteArray) (x2 : ByteArray) : Option (ByteArray × Bool) :=
  (mStringsliteCutSuffix x1 x2).bind (unc2 fun x8 x9 =>
  some (x8, x9))

/-- internal/stringslite.IndexByte -/
noncomputable def mStringsliteIndexByte (x1 : ByteArray) (x2 : Int) : Option (Int) :=
  some (sFirst x1 x2)

/-- internal/stringslite.Index -/
noncomputable def mStringsliteIndex (x1 : ByteArray) (x2 : ByteArray) : Option (Int) :=
  (if (x2.size : Int) = 0 then (
  some true)
  else (
  some (sEq x2 x1))).bind (fun x20 =>
  if x20 = true then (
  some 0)
  else (
  if (x2.size : Int) = 1 then (
  (sIdx x2 0).bind fun x25 =>
  (mStringsliteIndexByte x1 x25).bind fun x27 =>
  some x27)
  else (
  if (x1.size : Int) ≤ (x2.size : Int) then (
  some (-1))
  else (
  none))))

/-- strings.Index -/
noncomputable def mStringsIndex (x1 : ByteArray) (x2 : ByteArray) : Option (Int) :=
  (mStringsliteIndex x1 x2).bind fun x6 =>
  some x6

noncomputable def mStringsCount_L40 (x2 : ByteArray) : (ByteArray × Int) → Option ((ByteArray × Int) ⊕ (Int)) := unc2 fun x59 x60 =>
  (mStringsIndex x59 x2).bind fun x61 =>
  if x61 = (-1) then (
  some (.inr x60))
  else (
  (chk (x60 + 1)).bind fun _ =>
  (chk (x61 + (x2.size : Int))).bind fun _ =>
  (sCut x59 (x61 + (x2.size : Int)) (x59.size : Int)).bind fun q66 =>
  some (.inl (q66, x60 + 1)))

/-- strings.Count -/
noncomputable def mStringsCount (x1 : ByteArray) (x2 : ByteArray) : Option (Int) :=
  if (x2.size : Int) = 0 then (
  none)
  else (
  if (x2.size : Int) = 1 then (
  (sIdx x2 0).bind fun x38 =>
  some (sCount x1 x38))
  else (
  loopM (mStringsCount_L40 x2) (x1, 0)))

noncomputable def mStringsGenSplit_L419 (x1 : ByteArray) (x2 : ByteArray) (x3 : Int) (x291 : Int) : (ByteArray × Int × (List ByteArray)) → Option ((ByteArray × Int × (List ByteArray)) ⊕ (ByteArray × Int × (List ByteArray))) := unc3 fun x490 x491 l492 =>
  if x491 < ((min x291 ((x1.size : Int) + 1)) - 1) then (
  (mStringsIndex x490 x2).bind fun x495 =>
  if x495 < 0 then (
  some (.inr (x490, x491, l492)))
  else (
  (chk (x495 + x3)).bind fun _ =>
  (sCut x490 0 (x495 + x3)).bind fun q499 =>
  (idx l492 x491).bind fun _ =>
  (chk (x495 + (x2.size : Int))).bind fun _ =>
  (sCut x490 (x495 + (x2.size : Int)) (x490.size : Int)).bind fun q520 =>
  (chk (x491 + 1)).bind fun _ =>
  some (.inl (q520, x491 + 1, put l492 x491 q499))))
  else (
  some (.inr (x490, x491, l492)))

/-- strings.genSplit -/
noncomputable def mStringsGenSplit (x1 : ByteArray) (x2 : ByteArray) (x3 : Int) (x4 : Int) : Option ((List ByteArray)) :=
  if x4 = 0 then (
  some [])
  else (
  if (sEq x2 (ByteArray.mk #[])) = true then (
  none)
  else (
  (if x4 < 0 then (
  (mStringsCount x1 x2).bind fun x294 =>
  (chk (x294 + 1)).bind fun _ =>
  some (x294 + 1))
  else (
  some x4)).bind (fun x291 =>
  (chk ((x1.size : Int) + 1)).bind fun _ =>
  (mkLen 16 (min x291 ((x1.size : Int) + 1))).bind fun m298 =>
  (chk ((min x291 ((x1.size : Int) + 1)) - 1)).bind fun _ =>
  (loopM (mStringsGenSplit_L419 x1 x2 x3 x291) (x1, 0, List.replicate m298 (ByteArray.empty : ByteArray))).bind (unc3 fun x414 x415 l416 =>
  (idx l416 x415).bind fun _ =>
  (chk (x415 + 1)).bind fun _ =>
  (cutS (put l416 x415 x414) 0 (x415 + 1)).bind fun l542 =>
  some l542))))

/-- strings.Split -/
noncomputable def mStringsSplit (x1 : ByteArray) (x2 : ByteArray) : Option ((List ByteArray)) :=
  (mStringsGenSplit x1 x2 0 (-1)).bind fun l17 =>
  some l17

noncomputable def mLineLines_L155 (l147 : (List ByteArray)) (k240 : Nat) : ((List (List ByteArray))) → Option ((List (List ByteArray))) := fun l239 =>
  (idx l147 (k240 : Int)).bind fun x243 =>
  (mStringsSplit x243 (ByteArray.mk #[32])).bind fun l259 =>
  (room 24 (l239.length + 1)).bind fun _ =>
  some (l239 ++ [l259])

/-- fishplate/line.Lines -/
noncomputable def mLineLines (x1 : ByteArray) : Option (Bool × (List (List ByteArray))) :=
  if (sEq x1 (ByteArray.mk #[])) = true then (
  some (true, []))
  else (
  (mStringsCutSuffix x1 (ByteArray.mk #[10])).bind (unc2 fun x144 x145 =>
  (mStringsSplit x144 (ByteArray.mk #[10])).bind fun l147 =>
  (forS (mLineLines_L155 l147) l147.length 0 ([] : (List (List ByteArray)))).bind (fun l239 =>
  some (x145, l239))))

noncomputable def mLineName_L75 (x1 : ByteArray) (k96 : Nat) : (Unit) → Option ((Unit) ⊕ (Bool)) := fun _ =>
  (idx (sBytes x1) (k96 : Int)).bind fun x100 =>
  (if x100 < 97 then (
  some true)
  else (
  some (decide (122 < x100)))).bind (fun x113 =>
  if x113 = true then (
  some (.inr false))
  else (
  some (.inl ())))

/-- fishplate/line.name -/
noncomputable def mLineName (x1 : ByteArray) : Option (Bool) :=
  (chk (x1.size : Int)).bind fun _ =>
  (forM (mLineName_L75 x1) ((sBytes x1).length) 0 ()).bind fun t => Sum.elim (fun _ =>
  (if 1 ≤ (x1.size : Int) then (
  some (decide ((x1.size : Int) ≤ 12)))
  else (
  some false)).bind (fun x122 =>
  some x122)) (fun q => some q) t

noncomputable def mSlicesIndex_L39 (l4 : (List ByteArray)) (x5 : ByteArray) (k54 : Nat) : (Unit) → Option ((Unit) ⊕ (Int)) := fun _ =>
  (idx l4 (k54 : Int)).bind fun x58 =>
  if (sEq x5 x58) = true then (
  some (.inr (k54 : Int)))
  else (
  some (.inl ()))

/-- slices.Index[[]string,string] -/
noncomputable def mSlicesIndex (l4 : (List ByteArray)) (x5 : ByteArray) : Option (Int) :=
  (forM (mSlicesIndex_L39 l4 x5) l4.length 0 ()).bind fun t => Sum.elim (fun _ =>
  some (-1)) (fun q => some q) t

/-- slices.Contains[[]string,string] -/
noncomputable def mSlicesContains (l4 : (List ByteArray)) (x5 : ByteArray) : Option (Bool) :=
  (mSlicesIndex l4 x5).bind fun x9 =>
  some (decide (0 ≤ x9))

/-- fishplate/line.ends -/
noncomputable def mLineEnds (x1 : Int) : Option (Int) :=
  if x1 = 1 then (
  some 2)
  else (
  if x1 = 2 then (
  some 3)
  else (
  if x1 = 3 then (
  some 4)
  else (
  some 0)))

/-- fishplate/line.within -/
noncomputable def mLineWithin (x1 : Int) (x2 : Int) (x3 : Int) : Option (Bool) :=
  (if x2 ≤ x1 then (
  some (decide (x1 ≤ x3)))
  else (
  some false)).bind (fun x14 =>
  some x14)

/-- fishplate/line.checkSection -/
noncomputable def mLineCheckSection (s1 : ApiSection) (x2 : Int) : Option (Int) :=
  (mLineEnds s1.Kind).bind fun x80 =>
  if x80 = 0 then (
  some 1)
  else (
  ((mLineWithin s1.Length 10 3000).bind fun x95 =>
  if x95 = true then (
  (mLineWithin s1.Grade (-40) 40).bind fun x98 =>
  if x98 = true then (
  (mLineWithin s1.Speed 300 6000).bind fun x101 =>
  some (!x101))
  else (
  some true))
  else (
  some true)).bind (fun x93 =>
  if x93 = true then (
  some 2)
  else (
  (if s1.Kind = 2 then (
  (mLineWithin s1.Slow 300 s1.Speed).bind fun x119 =>
  if x119 = true then (
  if s1.Kind = 1 then (
  (mLineWithin s1.Station 0 x2).bind fun x123 =>
  some (!x123))
  else (
  some false))
  else (
  some true))
  else (
  if s1.Kind = 1 then (
  (mLineWithin s1.Station 0 x2).bind fun x126 =>
  some (!x126))
  else (
  some false))).bind (fun x116 =>
  if x116 = true then (
  some 2)
  else (
  (if s1.Slow ≠ 0 then (
  if s1.Kind = 2 then (
  if s1.Station ≠ 0 then (
  if s1.Kind = 1 then (
  if s1.Grade ≠ 0 then (
  some (decide (s1.Kind = 3)))
  else (
  some false))
  else (
  some true))
  else (
  if s1.Grade ≠ 0 then (
  some (decide (s1.Kind = 3)))
  else (
  some false)))
  else (
  some true))
  else (
  if s1.Station ≠ 0 then (
  if s1.Kind = 1 then (
  if s1.Grade ≠ 0 then (
  some (decide (s1.Kind = 3)))
  else (
  some false))
  else (
  some true))
  else (
  if s1.Grade ≠ 0 then (
  some (decide (s1.Kind = 3)))
  else (
  some false)))).bind (fun x141 =>
  if x141 = true then (
  some 1)
  else (
  some 0)))))))

/-- fishplate/line.has -/
noncomputable def mLineHas (s1 : ApiNet) (s17 : LineEnd) : Option (Bool) :=
  ((chk ((s1.Sections.length : Int) - 1)).bind fun _ =>
  (mLineWithin s17.section_ 0 ((s1.Sections.length : Int) - 1)).bind fun x165 =>
  if x165 = true then (
  (idx s1.Sections s17.section_).bind fun x168 =>
  (mLineEnds x168.Kind).bind fun x178 =>
  (chk (x178 - 1)).bind fun _ =>
  (mLineWithin s17.end_ 0 (x178 - 1)).bind fun x181 =>
  some x181)
  else (
  some false)).bind (fun x143 =>
  some x143)

/-- cmp.isNaN[int] -/
noncomputable def mCmpIsNaN (x1 : Int) : Option (Bool) :=
  some (decide (x1 ≠ x1))

/-- cmp.Compare[int] -/
noncomputable def mCmpCompare (x1 : Int) (x2 : Int) : Option (Int) :=
  (mCmpIsNaN x1).bind fun x13 =>
  (mCmpIsNaN x2).bind fun x15 =>
  if x13 = true then (
  if x15 = true then (
  some 0)
  else (
  some (-1)))
  else (
  if x15 = true then (
  some 1)
  else (
  if x1 < x2 then (
  some (-1))
  else (
  if x2 < x1 then (
  some 1)
  else (
  some 0))))

noncomputable def mCmpOr_L38 (l4 : (List Int)) (k53 : Nat) : (Unit) → Option ((Unit) ⊕ (Int)) := fun _ =>
  (idx l4 (k53 : Int)).bind fun x57 =>
  if x57 ≠ 0 then (
  some (.inr x57))
  else (
  some (.inl ()))

/-- cmp.Or[int] -/
noncomputable def mCmpOr (l4 : (List Int)) : Option (Int) :=
  (forM (mCmpOr_L38 l4) l4.length 0 ()).bind fun t => Sum.elim (fun _ =>
  some 0) (fun q => some q) t

noncomputable def mLineCheckLinks_L643 (s1 : ApiNet) (k1051 : Nat) : ((List (LineEnd × Bool))) → Option (((List (LineEnd × Bool))) ⊕ (Int)) := fun l1050 =>
  (idx s1.Links (k1051 : Int)).bind fun x1055 =>
  (some ()).bind (fun _ =>
  ((mLineHas s1 (⟨x1055.A, x1055.EndA⟩ : LineEnd)).bind fun x1088 =>
  if x1088 = true then (
  (mLineHas s1 (⟨x1055.B, x1055.EndB⟩ : LineEnd)).bind fun x1091 =>
  some (!x1091))
  else (
  some true)).bind (fun x1086 =>
  if x1086 = true then (
  some (.inr 3))
  else (
  if x1055.A = x1055.B then (
  some (.inr 1))
  else (
  if x1055.B < x1055.A then (
  some (.inr 5))
  else (
  (if 0 < (k1051 : Int) then (
  (chk ((k1051 : Int) - 1)).bind fun _ =>
  (idx s1.Links ((k1051 : Int) - 1)).bind fun x1159 =>
  ((mCmpCompare x1159.A x1055.A).bind fun x1201 =>
  (mCmpCompare x1159.EndA x1055.EndA).bind fun x1203 =>
  (mCmpOr [x1201, x1203]).bind fun x1208 =>
  some (decide (0 ≤ x1208))).bind (fun x1190 =>
  if x1190 = true then (
  some (.inr (.inr 5)))
  else (
  some (.inl ()))))
  else (
  some (.inl ()))).bind fun t => Sum.elim (fun _ =>
  ((some (mgetD l1050 (⟨x1055.A, x1055.EndA⟩ : LineEnd) false)).bind fun x1234 =>
  if x1234 = true then (
  some true)
  else (
  (some (mgetD l1050 (⟨x1055.B, x1055.EndB⟩ : LineEnd) false)).bind fun x1241 =>
  some x1241)).bind (fun x1229 =>
  if x1229 = true then (
  some (.inr 6))
  else (
  some (.inl (mput (mput l1050 (⟨x1055.A, x1055.EndA⟩ : LineEnd) true) (⟨x1055.B, x1055.EndB⟩ : LineEnd) true))))) (fun r1258 => some r1258) t)))))

/-- fishplate/line.checkLinks -/
noncomputable def mLineCheckLinks (s1 : ApiNet) : Option (Int) :=
  (forM (mLineCheckLinks_L643 s1) s1.Links.length 0 (([] : (List (LineEnd × Bool))) : (List (LineEnd × Bool)))).bind fun t => Sum.elim (fun _ =>
  some 0) (fun q => some q) t

noncomputable def mLineJoined_L88 (s1 : ApiNet) (s17 : LineEnd) (k117 : Nat) : (Unit) → Option ((Unit) ⊕ (Int × Int × Bool)) := fun _ =>
  (idx s1.Links (k117 : Int)).bind fun x121 =>
  (if x121.A = s17.section_ then (
  some (decide (x121.EndA = s17.end_)))
  else (
  some false)).bind (fun x135 =>
  if x135 = true then (
  some (.inr (x121.B, x121.EndB, true)))
  else (
  (if x121.B = s17.section_ then (
  some (decide (x121.EndB = s17.end_)))
  else (
  some false)).bind (fun x143 =>
  if x143 = true then (
  some (.inr (x121.A, x121.EndA, true)))
  else (
  some (.inl ())))))

/-- fishplate/line.joined -/
noncomputable def mLineJoined (s1 : ApiNet) (s17 : LineEnd) : Option (Int × Int × Bool) :=
  (forM (mLineJoined_L88 s1 s17) s1.Links.length 0 ()).bind fun t => Sum.elim (fun _ =>
  some (0, 0, false)) (fun q => some q) t

noncomputable def mLineCheckSignals_L238 (s1 : ApiNet) (k345 : Nat) : (Unit) → Option ((Unit) ⊕ (Int)) := fun _ =>
  (idx s1.Signals (k345 : Int)).bind fun x349 =>
  (mLineHas s1 (⟨x349.Section, x349.End⟩ : LineEnd)).bind fun x361 =>
  if x361 = true then (
  (mLineJoined s1 (⟨x349.Section, x349.End⟩ : LineEnd)).bind (unc3 fun _ _ x367 =>
  (if x367 = true then (
  (idx s1.Sections x349.Section).bind fun x388 =>
  some (decide (x388.Kind ≠ 1)))
  else (
  some true)).bind (fun x385 =>
  if x385 = true then (
  some (.inr 1))
  else (
  if 0 < (k345 : Int) then (
  (chk ((k345 : Int) - 1)).bind fun _ =>
  (idx s1.Signals ((k345 : Int) - 1)).bind fun x402 =>
  ((mCmpCompare x402.Section x349.Section).bind fun x444 =>
  (mCmpCompare x402.End x349.End).bind fun x446 =>
  (mCmpOr [x444, x446]).bind fun x451 =>
  some (decide (0 ≤ x451))).bind (fun x433 =>
  if x433 = true then (
  some (.inr 5))
  else (
  some (.inl ()))))
  else (
  some (.inl ()))))))
  else (
  some (.inr 3))

/-- fishplate/line.checkSignals -/
noncomputable def mLineCheckSignals (s1 : ApiNet) : Option (Int) :=
  (forM (mLineCheckSignals_L238 s1) s1.Signals.length 0 ()).bind fun t => Sum.elim (fun _ =>
  some 0) (fun q => some q) t

noncomputable def mLineCheckGates_L197 (s1 : ApiNet) (k283 : Nat) : (Unit) → Option ((Unit) ⊕ (Int)) := fun _ =>
  (idx s1.Gates (k283 : Int)).bind fun x287 =>
  (chk ((s1.Sections.length : Int) - 1)).bind fun _ =>
  (mLineWithin x287.Section 0 ((s1.Sections.length : Int) - 1)).bind fun x299 =>
  if x299 = true then (
  (idx s1.Sections x287.Section).bind fun x303 =>
  if x303.Kind ≠ 1 then (
  some (.inr 1))
  else (
  (mLineWithin x287.Close 1 12).bind fun x315 =>
  if x315 = true then (
  (if 0 < (k283 : Int) then (
  (chk ((k283 : Int) - 1)).bind fun _ =>
  (idx s1.Gates ((k283 : Int) - 1)).bind fun x361 =>
  some (decide (x287.Section ≤ x361.Section)))
  else (
  some false)).bind (fun x345 =>
  if x345 = true then (
  some (.inr 5))
  else (
  some (.inl ()))))
  else (
  some (.inr 2))))
  else (
  some (.inr 3))

/-- fishplate/line.checkGates -/
noncomputable def mLineCheckGates (s1 : ApiNet) : Option (Int) :=
  (forM (mLineCheckGates_L197 s1) s1.Gates.length 0 ()).bind fun t => Sum.elim (fun _ =>
  some 0) (fun q => some q) t

noncomputable def mLineCheck_L305 (s1 : ApiNet) (k320 : Nat) : (Unit) → Option ((Unit) ⊕ (Int)) := fun _ =>
  if (k320 : Int) = (0 : Int) then (
  (mLineCheckLinks s1).bind fun x325 =>
  if x325 ≠ 0 then (
  some (.inr x325))
  else (
  some (.inl ())))
  else (
  if (k320 : Int) = (1 : Int) then (
  (mLineCheckSignals s1).bind fun x330 =>
  if x330 ≠ 0 then (
  some (.inr x330))
  else (
  some (.inl ())))
  else (
  if (k320 : Int) = (2 : Int) then (
  (mLineCheckGates s1).bind fun x335 =>
  if x335 ≠ 0 then (
  some (.inr x335))
  else (
  some (.inl ())))
  else (
  none)))

noncomputable def mLineCheck_L267 (s1 : ApiNet) (k285 : Nat) : (Unit) → Option ((Unit) ⊕ (Int)) := fun _ =>
  (idx s1.Sections (k285 : Int)).bind fun x289 =>
  (mLineCheckSection x289 (s1.Stations.length : Int)).bind fun x300 =>
  if x300 ≠ 0 then (
  some (.inr x300))
  else (
  some (.inl ()))

noncomputable def mLineCheck_L194 (s1 : ApiNet) (k229 : Nat) : (Unit) → Option ((Unit) ⊕ (Int)) := fun _ =>
  (idx s1.Stations (k229 : Int)).bind fun x233 =>
  (mLineName x233).bind fun x243 =>
  if x243 = true then (
  (cutS s1.Stations 0 (k229 : Int)).bind fun l247 =>
  (mSlicesContains l247 x233).bind fun x262 =>
  if x262 = true then (
  some (.inr 6))
  else (
  some (.inl ())))
  else (
  some (.inr 1))

/-- fishplate/line.Check -/
noncomputable def mLineCheck (s1 : ApiNet) : Option (Int) :=
  if (s1.Sections.length : Int) = 0 then (
  some 1)
  else (
  (if 12 < (s1.Stations.length : Int) then (
  some true)
  else (
  if 60 < (s1.Sections.length : Int) then (
  some true)
  else (
  if 90 < (s1.Links.length : Int) then (
  some true)
  else (
  if 40 < (s1.Signals.length : Int) then (
  some true)
  else (
  some (decide (8 < (s1.Gates.length : Int)))))))).bind (fun x187 =>
  if x187 = true then (
  some 4)
  else (
  (forM (mLineCheck_L194 s1) s1.Stations.length 0 ()).bind fun t => Sum.elim (fun _ =>
  (forM (mLineCheck_L267 s1) s1.Sections.length 0 ()).bind fun t => Sum.elim (fun _ =>
  (forM (mLineCheck_L305 s1) 3 0 ()).bind fun t => Sum.elim (fun _ =>
  some 0) (fun q => some q) t) (fun q => some q) t) (fun q => some q) t)))

noncomputable def mLineRead_L104 (l94 : (List (List ByteArray))) (k127 : Nat) : (Unit) → Option ((Unit) ⊕ ((List ByteArray) × (List ApiSection) × (List ApiLink) × (List ApiSignal) × (List ApiGate) × Int)) := fun _ =>
  (idx l94 (k127 : Int)).bind fun _ =>
  none

/-- fishplate/line.Read -/
noncomputable def mLineRead (x1 : ByteArray) : Option ((List ByteArray) × (List ApiSection) × (List ApiLink) × (List ApiSignal) × (List ApiGate) × Int) :=
  if 20000 < (x1.size : Int) then (
  some ([], [], [], [], [], 4))
  else (
  (mLineLines x1).bind (unc2 fun x93 l94 =>
  if x93 = true then (
  (forM (mLineRead_L104 l94) l94.length 0 ()).bind fun t => Sum.elim (fun _ =>
  (mLineCheck (⟨[], [], [], [], []⟩ : ApiNet)).bind fun x151 =>
  if x151 ≠ 0 then (
  some ([], [], [], [], [], x151))
  else (
  some ([], [], [], [], [], 0))) (fun q => some q) t)
  else (
  some ([], [], [], [], [], 10))))

/-- fishplate/fishkeep1.awakeLine -/
noncomputable def mFishkeep1AwakeLine : Option (Bool) :=
  (mLineRead (ByteArray.mk #[120])).bind (unc6 fun _ _ _ _ _ x37 =>
  some (decide (x37 ≠ 0)))

/-- math/bits.Mul64 -/
noncomputable def mBitsMul64 (x1 : Int) (x2 : Int) : Option (Int × Int) :=
  (shN 32).bind fun _ =>
  (shN 32).bind fun _ =>
  (shN 32).bind fun _ =>
  (shN 32).bind fun _ =>
  (shN 32).bind fun _ =>
  some (IntKind.wrap .u64 ((IntKind.wrap .u64 ((IntKind.wrap .u64 ((shrI .u64 x1 32) * (shrI .u64 x2 32))) + (shrI .u64 (IntKind.wrap .u64 ((IntKind.wrap .u64 ((shrI .u64 x1 32) * (andI .u64 x2 4294967295))) + (shrI .u64 (IntKind.wrap .u64 ((andI .u64 x1 4294967295) * (andI .u64 x2 4294967295))) 32))) 32))) + (shrI .u64 (IntKind.wrap .u64 ((andI .u64 (IntKind.wrap .u64 ((IntKind.wrap .u64 ((shrI .u64 x1 32) * (andI .u64 x2 4294967295))) + (shrI .u64 (IntKind.wrap .u64 ((andI .u64 x1 4294967295) * (andI .u64 x2 4294967295))) 32))) 4294967295) + (IntKind.wrap .u64 ((andI .u64 x1 4294967295) * (shrI .u64 x2 32))))) 32)), IntKind.wrap .u64 (x1 * x2))

/-- math/bits.Mul -/
noncomputable def mBitsMul (x1 : Int) (x2 : Int) : Option (Int × Int) :=
  (mBitsMul64 x1 x2).bind (unc2 fun x8 x9 =>
  some (x8, x9))

noncomputable def mSlicesRepeat_L612  : (Int × (List Int)) → Option ((Int × (List Int)) ⊕ ((List Int))) := unc2 fun x734 l735 =>
  if x734 < (l735.length : Int) then (
  (cutS l735 x734 (l735.length : Int)).bind fun _ =>
  (cutS l735 0 x734).bind fun l775 =>
  (chk (x734 + (cpyN x734 (l735.length : Int) l775))).bind fun _ =>
  some (.inl (x734 + (cpyN x734 (l735.length : Int) l775), cpyI l735 x734 (l735.length : Int) l775)))
  else (
  some (.inr l735))

/-- slices.Repeat[[]int,int] -/
noncomputable def mSlicesRepeat (l4 : (List Int)) (x5 : Int) : Option ((List Int)) :=
  if x5 < 0 then (
  none)
  else (
  (mBitsMul (IntKind.wrap .u64 (l4.length : Int)) (IntKind.wrap .u64 x5)).bind (unc2 fun x403 x404 =>
  (if 0 < x403 then (
  some true)
  else (
  some (decide (9223372036854775807 < x404)))).bind (fun x409 =>
  if x409 = true then (
  none)
  else (
  (mkLen 8 (IntKind.wrap .i64 x404)).bind fun m413 =>
  (loopM mSlicesRepeat_L612 (cpyN 0 ((List.replicate m413 (0 : Int)).length : Int) l4, cpyI (List.replicate m413 (0 : Int)) 0 ((List.replicate m413 (0 : Int)).length : Int) l4)).bind (fun l609 =>
  some l609)))))

noncomputable def mLinePlatforms_L103 (s1 : ApiNet) (x17 : Int) (k158 : Nat) : ((List Int)) → Option ((List Int)) := fun l157 =>
  (idx s1.Sections (k158 : Int)).bind fun x161 =>
  (chk (x17 + 1)).bind fun _ =>
  if x161.Station = (x17 + 1) then (
  (room 8 (l157.length + 1)).bind fun _ =>
  some (l157 ++ [(k158 : Int)]))
  else (
  some l157)

/-- fishplate/line.platforms -/
noncomputable def mLinePlatforms (s1 : ApiNet) (x17 : Int) : Option ((List Int)) :=
  (forS (mLinePlatforms_L103 s1 x17) s1.Sections.length 0 ([] : (List Int))).bind (fun l157 =>
  some l157)

/-- fishplate/line.distances-1 -/
noncomputable def mLineDistances_1 (s13 : LineEnd) (x14 : Int) (l18 : (List ByteArray)) (l22 : (List ApiSection)) (l26 : (List ApiLink)) (l30 : (List ApiSignal)) (l34 : (List ApiGate)) (l35 : (List (LineEnd × Int))) (l36 : (List LineEnd)) : Option ((List (LineEnd × Int)) × (List LineEnd)) :=
  (mLineJoined (⟨l18, l22, l26, l30, l34⟩ : ApiNet) s13).bind (unc3 fun x82 x83 x84 =>
  (some (mgetD l35 (⟨x82, x83⟩ : LineEnd) 0)).bind fun x92 =>
  (if x84 = true then (
  if (mhas l35 (⟨x82, x83⟩ : LineEnd)) = true then (
  some (decide (x14 < x92)))
  else (
  some true))
  else (
  some false)).bind (fun x99 =>
  if x99 = true then (
  (room 16 (l36.length + 1)).bind fun _ =>
  some (mput l35 (⟨x82, x83⟩ : LineEnd) x14, l36 ++ [(⟨x82, x83⟩ : LineEnd)]))
  else (
  some (l35, l36))))

/-- fishplate/line.outs -/
noncomputable def mLineOuts (x1 : Int) (x2 : Int) : Option ((List Int)) :=
  (if x1 = 2 then (
  some (decide (x2 = 0)))
  else (
  some false)).bind (fun x42 =>
  if x42 = true then (
  some [1, 2])
  else (
  if x1 = 2 then (
  some [0])
  else (
  some [xorI .i64 x2 1])))

/-- fishplate/line.distances-1 -/
noncomputable def mLineDistances_1_2 (s13 : LineEnd) (x14 : Int) (l18 : (List ByteArray)) (l22 : (List ApiSection)) (l26 : (List ApiLink)) (l30 : (List ApiSignal)) (l34 : (List ApiGate)) (l35 : (List (LineEnd × Int))) (l36 : (List LineEnd)) : Option ((List (LineEnd × Int)) × (List LineEnd)) :=
  (mLineJoined (⟨l18, l22, l26, l30, l34⟩ : ApiNet) s13).bind (unc3 fun x80 x81 x82 =>
  (some (mgetD l35 (⟨x80, x81⟩ : LineEnd) 0)).bind fun x90 =>
  (if x82 = true then (
  if (mhas l35 (⟨x80, x81⟩ : LineEnd)) = true then (
  some (decide (x14 < x90)))
  else (
  some true))
  else (
  some false)).bind (fun x97 =>
  if x97 = true then (
  (room 16 (l36.length + 1)).bind fun _ =>
  some (mput l35 (⟨x80, x81⟩ : LineEnd) x14, l36 ++ [(⟨x80, x81⟩ : LineEnd)]))
  else (
  some (l35, l36))))

noncomputable def mLineDistances_L2809 (s1 : ApiNet) (l2802 : (List Int)) (x2761 : LineEnd) (x2791 : ApiSection) (k2925 : Nat) : ((List (LineEnd × Int)) × (List LineEnd)) → Option ((List (LineEnd × Int)) × (List LineEnd)) := unc2 fun l2923 l2924 =>
  (idx l2802 (k2925 : Int)).bind fun x2928 =>
  (some (mgetD l2923 x2761 0)).bind fun x2959 =>
  (chk (x2959 + x2791.Length)).bind fun _ =>
  (mLineDistances_1_2 (⟨x2761.section_, x2928⟩ : LineEnd) (x2959 + x2791.Length) s1.Stations s1.Sections s1.Links s1.Signals s1.Gates l2923 l2924).bind (unc2 fun l2963 l2964 =>
  some (l2963, l2964))

noncomputable def mLineDistances_L2309 (s1 : ApiNet) : ((List (LineEnd × Int)) × (List LineEnd)) → Option (((List (LineEnd × Int)) × (List LineEnd)) ⊕ ((List (LineEnd × Int)))) := unc2 fun l2758 l2759 =>
  if 0 < (l2759.length : Int) then (
  (idx l2759 0).bind fun x2761 =>
  (cutS l2759 1 (l2759.length : Int)).bind fun l2778 =>
  (idx s1.Sections x2761.section_).bind fun x2791 =>
  (mLineOuts x2791.Kind x2761.end_).bind fun l2802 =>
  (forS (mLineDistances_L2809 s1 l2802 x2761 x2791) l2802.length 0 (l2758, l2778)).bind (unc2 fun l2923 l2924 =>
  some (.inl (l2923, l2924))))
  else (
  some (.inr l2758))

noncomputable def mLineDistances_L1506 (s1 : ApiNet) (l20 : (List Int)) (k1600 : Nat) : ((List (LineEnd × Int)) × (List LineEnd)) → Option ((List (LineEnd × Int)) × (List LineEnd)) := unc2 fun l1597 l1598 =>
  (idx l20 (k1600 : Int)).bind fun x1603 =>
  (mLineDistances_1 (⟨x1603, 0⟩ : LineEnd) 0 s1.Stations s1.Sections s1.Links s1.Signals s1.Gates l1597 l1598).bind (unc2 fun l1613 l1614 =>
  (mLineDistances_1 (⟨x1603, 1⟩ : LineEnd) 0 s1.Stations s1.Sections s1.Links s1.Signals s1.Gates l1613 l1614).bind (unc2 fun l1625 l1626 =>
  some (l1625, l1626)))

/-- fishplate/line.distances -/
noncomputable def mLineDistances (s1 : ApiNet) (l20 : (List Int)) : Option ((List (LineEnd × Int))) :=
  (forS (mLineDistances_L1506 s1 l20) l20.length 0 ((([] : (List (LineEnd × Int))), []) : (List (LineEnd × Int)) × (List LineEnd))).bind (unc2 fun l1597 l1598 =>
  (loopM (mLineDistances_L2309 s1) (l1597, l1598)).bind (fun l2307 =>
  some l2307))

noncomputable def mLineApart_L8511 (s1 : ApiNet) (k7700 : Nat) (x8968 : LineEnd × Int) : ((List (List Int))) → Option (((List (List Int))) ⊕ ((List (List Int)))) := fun l8956 =>
  (idx s1.Sections x8968.1.section_).bind fun x8986 =>
  (chk (x8986.Station - 1)).bind fun _ =>
  (if 0 ≤ (x8986.Station - 1) then (
  (idx l8956 (k7700 : Int)).bind fun x9076 =>
  (idx x9076 (x8986.Station - 1)).bind fun x9096 =>
  if x9096 < 0 then (
  some true)
  else (
  (idx l8956 (k7700 : Int)).bind fun x9113 =>
  (idx x9113 (x8986.Station - 1)).bind fun x9133 =>
  some (decide (x8968.2 < x9133))))
  else (
  some false)).bind (fun x9073 =>
  if x9073 = true then (
  (idx l8956 (k7700 : Int)).bind fun x9150 =>
  (idx x9150 (x8986.Station - 1)).bind fun _ =>
  some (.inl (put l8956 (k7700 : Int) (put x9150 (x8986.Station - 1) x8968.2))))
  else (
  some (.inl l8956)))

noncomputable def mLineApart_L4636 (s1 : ApiNet) (k7700 : Nat) : ((List (List Int))) → Option ((List (List Int))) := fun l7698 =>
  (mSlicesRepeat [(-1)] (s1.Stations.length : Int)).bind fun l7706 =>
  (idx l7698 (k7700 : Int)).bind fun _ =>
  ((mLinePlatforms s1 (k7700 : Int)).bind fun l8489 =>
  (mLineDistances s1 l8489).bind fun l8501 =>
  (ordM (fun p => forL (mLineApart_L8511 s1 k7700) p (put l7698 (k7700 : Int) l7706)) l8501).bind fun t => Sum.elim (fun l8956 =>
  some l8956) (fun q => some q) t).bind (fun l8464 =>
  (idx l8464 (k7700 : Int)).bind fun x9190 =>
  (idx x9190 (k7700 : Int)).bind fun _ =>
  some (put l8464 (k7700 : Int) (put x9190 (k7700 : Int) 0)))

/-- fishplate/line.Apart -/
noncomputable def mLineApart (s1 : ApiNet) : Option (Int × (List (List Int))) :=
  (mLineCheck s1).bind fun x4627 =>
  if x4627 ≠ 0 then (
  some (x4627, []))
  else (
  (mkLen 24 (s1.Stations.length : Int)).bind fun m4630 =>
  (forS (mLineApart_L4636 s1) ((List.replicate m4630 (([] : List Int) : (List Int))).length) 0 (List.replicate m4630 (([] : List Int) : (List Int)) : (List (List Int)))).bind (fun l7698 =>
  some (0, l7698)))

noncomputable def mFishkeep1LineFar_L642 (k597 : Nat) (l404 : (List (List Int))) (x601 : (List Int)) (k709 : Nat) : (Unit) → Option ((Unit) ⊕ ((Unit) ⊕ (Bool))) := fun _ =>
  (idx x601 (k709 : Int)).bind fun x713 =>
  (if x713 < (-1) then (
  some true)
  else (
  (idx l404 (k709 : Int)).bind fun x752 =>
  (idx x752 (k597 : Int)).bind fun x765 =>
  some (decide (x765 ≠ x713)))).bind (fun x749 =>
  if x749 = true then (
  some (.inr (.inr false)))
  else (
  some (.inl ())))

noncomputable def mFishkeep1LineFar_L418 (l404 : (List (List Int))) (k597 : Nat) : (Unit) → Option ((Unit) ⊕ (Bool)) := fun _ =>
  (idx l404 (k597 : Int)).bind fun x601 =>
  (if (x601.length : Int) ≠ (l404.length : Int) then (
  some true)
  else (
  (idx x601 (k597 : Int)).bind fun x630 =>
  some (decide (x630 ≠ 0)))).bind (fun x627 =>
  if x627 = true then (
  some (.inr false))
  else (
  (forM (mFishkeep1LineFar_L642 k597 l404 x601) x601.length 0 ()).bind fun t => Sum.elim (fun _ =>
  some (.inl ())) (fun q => some q) t))

/-- fishplate/fishkeep1.LineFar -/
noncomputable def mFishkeep1LineFar (s1 : ApiNet) : Option (Bool) :=
  (mFishkeep1AwakeLine).bind fun x400 =>
  if x400 = true then (
  (mLineApart s1).bind (unc2 fun x403 l404 =>
  if x403 ≠ 0 then (
  some (decide ((l404.length : Int) = 0)))
  else (
  if (l404.length : Int) ≠ (s1.Stations.length : Int) then (
  some false)
  else (
  (forM (mFishkeep1LineFar_L418 l404) l404.length 0 ()).bind fun t => Sum.elim (fun _ =>
  some true) (fun q => some q) t))))
  else (
  some false)

end Go.Proofs.YtcibjjhanafojaaDoor
