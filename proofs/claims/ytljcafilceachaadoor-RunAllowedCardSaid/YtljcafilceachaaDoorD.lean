/- The models of the functions, as the extractor printed them. -/
import Derived.Test.YtljcafilceachaaDoorX9
set_option linter.unusedVariables false
set_option linter.unusedSimpArgs false
namespace Go.Proofs.YtljcafilceachaaDoor
open Go.RowKit Go.Fp

structure ApiStock where
  Name : ByteArray
  Length : Int
  Mass : Int
  Start : Int
  Power : Int
  Roll : Int
  Drag : Int
  Brake : Int
  Top : Int
  Seats : Int
  deriving DecidableEq
def rApiStock : RT ApiStock := (RT.cat (RT.on RT.str ApiStock.Name) (RT.cat (RT.on (RT.int .i64) ApiStock.Length) (RT.cat (RT.on (RT.int .i64) ApiStock.Mass) (RT.cat (RT.on (RT.int .i64) ApiStock.Start) (RT.cat (RT.on (RT.int .i64) ApiStock.Power) (RT.cat (RT.on (RT.int .i64) ApiStock.Roll) (RT.cat (RT.on (RT.int .i64) ApiStock.Drag) (RT.cat (RT.on (RT.int .i64) ApiStock.Brake) (RT.cat (RT.on (RT.int .i64) ApiStock.Top) (RT.on (RT.int .i64) ApiStock.Seats))))))))))
structure ApiNeed where
  Kind : Int
  Place : Int
  Position : Int
  At : Int
  deriving DecidableEq
def rApiNeed : RT ApiNeed := (RT.cat (RT.on (RT.int .i64) ApiNeed.Kind) (RT.cat (RT.on (RT.int .i64) ApiNeed.Place) (RT.cat (RT.on (RT.int .i64) ApiNeed.Position) (RT.on (RT.int .i64) ApiNeed.At))))
structure ApiHold where
  Need : ApiNeed
  From : Int
  To : Int
  deriving DecidableEq
def rApiHold : RT ApiHold := (RT.cat (RT.on rApiNeed ApiHold.Need) (RT.cat (RT.on (RT.int .i64) ApiHold.From) (RT.on (RT.int .i64) ApiHold.To)))
structure ApiPiece where
  Length : Int
  Grade : Int
  Speed : Int
  deriving DecidableEq
def rApiPiece : RT ApiPiece := (RT.cat (RT.on (RT.int .i64) ApiPiece.Length) (RT.cat (RT.on (RT.int .i64) ApiPiece.Grade) (RT.on (RT.int .i64) ApiPiece.Speed)))
structure ApiState where
  At : Int
  Speed : Int
  Work : Int
  deriving DecidableEq
def rApiState : RT ApiState := (RT.cat (RT.on (RT.int .i64) ApiState.At) (RT.cat (RT.on (RT.int .i64) ApiState.Speed) (RT.on (RT.int .i64) ApiState.Work)))

/-- internal/stringslite.HasSuffix -/
noncomputable def mStringsliteHasSuffix (x1 : ByteArray) (x2 : ByteArray) : Option (Bool) :=
  (if (x2.size : Int) ≤ (x1.size : Int) then (
  (chk ((x1.size : Int) - (x2.size : Int))).bind fun _ =>
  (sCut x1 ((x1.size : Int) - (x2.size : Int)) (x1.size : Int)).bind fun q26 =>
  some (sEq q26 x2))
  else (
  some false)).bind (fun x22 =>
  some x22)

/-- internal/stringslite.CutSuffix -/
noncomputable def mStringsliteCutSuffix (x1 : ByteArray) (x2 : ByteArray) : Option (ByteArray × Bool) :=
  (mStringsliteHasSuffix x1 x2).bind fun x11 =>
  if x11 = true then (
  (chk ((x1.size : Int) - (x2.size : Int))).bind fun _ =>
  (sCut x1 0 ((x1.size : Int) - (x2.size : Int))).bind fun q15 =>
  some (q15, true))
  else (
  some (x1, false))

/-- strings.CutSuffix -/
noncomputable def mStringsCutSuffix (x1 : ByteArray) (x2 : ByteArray) : Option (ByteArray × Bool) :=
  (mStringsliteCutSuffix x1 x2).bind (unc2 fun x8 x9 =>
  some (x8, x9))

/-- internal/stringslite.IndexByte -/
noncomputable def mStringsliteIndexByte (x1 : ByteArray) (x2 : Int) : Option (Int) :=
  some (sFirst x1 x2)

/-- internal/stringslite.Index -/
noncomputable def mStringsliteIndex (x1 : ByteArray) (x2 : ByteArray) : Option (Int) :=
  (if (x2.size : Int) = 0 then (
  some true)
  else (
  some (sEq x2 x1))).bind (fun x20 =>
  if x20 = true then (
  some 0)
  else (
  if (x2.size : Int) = 1 then (
  (sIdx x2 0).bind fun x25 =>
  (mStringsliteIndexByte x1 x25).bind fun x27 =>
  some x27)
  else (
  if (x1.size : Int) ≤ (x2.size : Int) then (
  some (-1))
  else (
  none))))

/-- strings.Index -/
noncomputable def mStringsIndex (x1 : ByteArray) (x2 : ByteArray) : Option (Int) :=
  (mStringsliteIndex x1 x2).bind fun x6 =>
  some x6

noncomputable def mStringsCount_L40 (x2 : ByteArray) : (ByteArray × Int) → Option ((ByteArray × Int) ⊕ (Int)) := unc2 fun x59 x60 =>
  (mStringsIndex x59 x2).bind fun x61 =>
  if x61 = (-1) then (
  some (.inr x60))
  else (
  (chk (x60 + 1)).bind fun _ =>
  (chk (x61 + (x2.size : Int))).bind fun _ =>
  (sCut x59 (x61 + (x2.size : Int)) (x59.size : Int)).bind fun q66 =>
  some (.inl (q66, x60 + 1)))

/-- strings.Count -/
noncomputable def mStringsCount (x1 : ByteArray) (x2 : ByteArray) : Option (Int) :=
  if (x2.size : Int) = 0 then (
  none)
  else (
  if (x2.size : Int) = 1 then (
  (sIdx x2 0).bind fun x38 =>
  some (sCount x1 x38))
  else (
  loopM (mStringsCount_L40 x2) (x1, 0)))

noncomputable def mStringsGenSplit_L419 (x1 : ByteArray) (x2 : ByteArray) (x3 : Int) (x291 : Int) : (ByteArray × Int × (List ByteArray)) → Option ((ByteArray × Int × (List ByteArray)) ⊕ (ByteArray × Int × (List ByteArray))) := unc3 fun x490 x491 l492 =>
  if x491 < ((min x291 ((x1.size : Int) + 1)) - 1) then (
  (mStringsIndex x490 x2).bind fun x495 =>
  if x495 < 0 then (
  some (.inr (x490, x491, l492)))
  else (
  (chk (x495 + x3)).bind fun _ =>
  (sCut x490 0 (x495 + x3)).bind fun q499 =>
  (idx l492 x491).bind fun _ =>
  (chk (x495 + (x2.size : Int))).bind fun _ =>
  (sCut x490 (x495 + (x2.size : Int)) (x490.size : Int)).bind fun q520 =>
  (chk (x491 + 1)).bind fun _ =>
  some (.inl (q520, x491 + 1, put l492 x491 q499))))
  else (
  some (.inr (x490, x491, l492)))

/-- strings.genSplit -/
noncomputable def mStringsGenSplit (x1 : ByteArray) (x2 : ByteArray) (x3 : Int) (x4 : Int) : Option ((List ByteArray)) :=
  if x4 = 0 then (
  some [])
  else (
  if (sEq x2 (ByteArray.mk #[])) = true then (
  none)
  else (
  (if x4 < 0 then (
  (mStringsCount x1 x2).bind fun x294 =>
  (chk (x294 + 1)).bind fun _ =>
  some (x294 + 1))
  else (
  some x4)).bind (fun x291 =>
  (chk ((x1.size : Int) + 1)).bind fun _ =>
  (mkLen 16 (min x291 ((x1.size : Int) + 1))).bind fun m298 =>
  (chk ((min x291 ((x1.size : Int) + 1)) - 1)).bind fun _ =>
  (loopM (mStringsGenSplit_L419 x1 x2 x3 x291) (x1, 0, List.replicate m298 (ByteArray.empty : ByteArray))).bind (unc3 fun x414 x415 l416 =>
  (idx l416 x415).bind fun _ =>
  (chk (x415 + 1)).bind fun _ =>
  (cutS (put l416 x415 x414) 0 (x415 + 1)).bind fun l542 =>
  some l542))))

/-- strings.Split -/
noncomputable def mStringsSplit (x1 : ByteArray) (x2 : ByteArray) : Option ((List ByteArray)) :=
  (mStringsGenSplit x1 x2 0 (-1)).bind fun l17 =>
  some l17

noncomputable def mLineLines_L155 (l147 : (List ByteArray)) (k240 : Nat) : ((List (List ByteArray))) → Option ((List (List ByteArray))) := fun l239 =>
  (idx l147 (k240 : Int)).bind fun x243 =>
  (mStringsSplit x243 (ByteArray.mk #[32])).bind fun l259 =>
  (room 24 (l239.length + 1)).bind fun _ =>
  some (l239 ++ [l259])

/-- fishplate/line.Lines -/
noncomputable def mLineLines (x1 : ByteArray) : Option (Bool × (List (List ByteArray))) :=
  if (sEq x1 (ByteArray.mk #[])) = true then (
  some (true, []))
  else (
  (mStringsCutSuffix x1 (ByteArray.mk #[10])).bind (unc2 fun x144 x145 =>
  (mStringsSplit x144 (ByteArray.mk #[10])).bind fun l147 =>
  (forS (mLineLines_L155 l147) l147.length 0 ([] : (List (List ByteArray)))).bind (fun l239 =>
  some (x145, l239))))

noncomputable def mLineNumbers_L39 (l4 : (List ByteArray)) (k53 : Nat) : (Unit) → Option ((Unit) ⊕ ((List Int))) := fun _ =>
  (idx l4 (k53 : Int)).bind fun _ =>
  none

/-- fishplate/line.Numbers -/
noncomputable def mLineNumbers (l4 : (List ByteArray)) : Option ((List Int)) :=
  (forM (mLineNumbers_L39 l4) l4.length 0 ()).bind fun t => Sum.elim (fun _ =>
  some []) (fun q => some q) t

noncomputable def mRunName_L75 (x1 : ByteArray) (k96 : Nat) : (Unit) → Option ((Unit) ⊕ (Bool)) := fun _ =>
  (idx (sBytes x1) (k96 : Int)).bind fun x100 =>
  (if x100 < 97 then (
  some true)
  else (
  some (decide (122 < x100)))).bind (fun x113 =>
  if x113 = true then (
  some (.inr false))
  else (
  some (.inl ())))

/-- fishplate/run.name -/
noncomputable def mRunName (x1 : ByteArray) : Option (Bool) :=
  (chk (x1.size : Int)).bind fun _ =>
  (forM (mRunName_L75 x1) ((sBytes x1).length) 0 ()).bind fun t => Sum.elim (fun _ =>
  (if 1 ≤ (x1.size : Int) then (
  some (decide ((x1.size : Int) ≤ 12)))
  else (
  some false)).bind (fun x122 =>
  some x122)) (fun q => some q) t

/-- fishplate/run.numbers -/
noncomputable def mRunNumbers (s1 : ApiStock) : Option (Int × Int × Int × Int × Int × Int × Int × Int × Int) :=
  some (s1.Length, s1.Mass, s1.Start, s1.Power, s1.Roll, s1.Drag, s1.Brake, s1.Top, s1.Seats)

/-- fishplate/run.within -/
noncomputable def mRunWithin (x1 : Int) (x2 : Int) (x3 : Int) : Option (Bool) :=
  (if x2 ≤ x1 then (
  some (decide (x1 ≤ x3)))
  else (
  some false)).bind (fun x14 =>
  some x14)

noncomputable def mRunCheck_L226 (x214 : Int) (x215 : Int) (x216 : Int) (x217 : Int) (x218 : Int) (x219 : Int) (x220 : Int) (x221 : Int) (x222 : Int) (k319 : Nat) : (Unit) → Option ((Unit) ⊕ (Int)) := fun _ =>
  (idx [x214, x215, x216, x217, x218, x219, x220, x221, x222] (k319 : Int)).bind fun x323 =>
  (idx [[10, 400], [10, 2000], [60, 150], [10000, 2000000], [0, 10], [1000000, 100000000], [60, 150], [500, 6000], [0, 1000]] (k319 : Int)).bind fun x372 =>
  (idx x372 0).bind fun x381 =>
  (idx [[10, 400], [10, 2000], [60, 150], [10000, 2000000], [0, 10], [1000000, 100000000], [60, 150], [500, 6000], [0, 1000]] (k319 : Int)).bind fun x391 =>
  (idx x391 1).bind fun x400 =>
  (mRunWithin x323 x381 x400).bind fun x410 =>
  if x410 = true then (
  some (.inl ()))
  else (
  some (.inr 2))

/-- fishplate/run.Check -/
noncomputable def mRunCheck (s1 : ApiStock) : Option (Int) :=
  (mRunName s1.Name).bind fun x210 =>
  if x210 = true then (
  (mRunNumbers s1).bind (unc9 fun x214 x215 x216 x217 x218 x219 x220 x221 x222 =>
  (forM (mRunCheck_L226 x214 x215 x216 x217 x218 x219 x220 x221 x222) 9 0 ()).bind fun t => Sum.elim (fun _ =>
  some 0) (fun q => some q) t))
  else (
  some 1)

/-- fishplate/run.Text-1 -/
noncomputable def mRunText_1 (s2 : ApiStock) (x3 : ByteArray) (_x4 : Int) (_x5 : Int) (_x6 : Int) (_x7 : Int) (_x8 : Int) (_x9 : Int) (_x10 : Int) (_x11 : Int) (_x12 : Int) : Option (Bool) :=
  some (sEq s2.Name x3)

noncomputable def mSlicesIndexFunc_L57 (l5 : (List ApiStock)) (x6 : ByteArray) (x7 : Int) (x8 : Int) (x9 : Int) (x10 : Int) (x11 : Int) (x12 : Int) (x13 : Int) (x14 : Int) (x15 : Int) (k76 : Nat) : (Unit) → Option ((Unit) ⊕ (Int)) := fun _ =>
  (idx l5 (k76 : Int)).bind fun x80 =>
  (mRunText_1 x80 x6 x7 x8 x9 x10 x11 x12 x13 x14 x15).bind fun x90 =>
  if x90 = true then (
  some (.inr (k76 : Int)))
  else (
  some (.inl ()))

/-- slices.IndexFunc[[]fishplate/api.Stock,fishplate/api.Stock] -/
noncomputable def mSlicesIndexFunc (l5 : (List ApiStock)) (x6 : ByteArray) (x7 : Int) (x8 : Int) (x9 : Int) (x10 : Int) (x11 : Int) (x12 : Int) (x13 : Int) (x14 : Int) (x15 : Int) : Option (Int) :=
  (forM (mSlicesIndexFunc_L57 l5 x6 x7 x8 x9 x10 x11 x12 x13 x14 x15) l5.length 0 ()).bind fun t => Sum.elim (fun _ =>
  some (-1)) (fun q => some q) t

/-- slices.ContainsFunc[[]fishplate/api.Stock,fishplate/api.Stock] -/
noncomputable def mSlicesContainsFunc (l5 : (List ApiStock)) (x6 : ByteArray) (x7 : Int) (x8 : Int) (x9 : Int) (x10 : Int) (x11 : Int) (x12 : Int) (x13 : Int) (x14 : Int) (x15 : Int) : Option (Bool) :=
  (mSlicesIndexFunc l5 x6 x7 x8 x9 x10 x11 x12 x13 x14 x15).bind fun x21 =>
  some (decide (0 ≤ x21))

noncomputable def mRunText_L94 (l4 : (List ApiStock)) (k134 : Nat) : (Unit) → Option ((Unit) ⊕ (ByteArray × Int)) := fun _ =>
  (idx l4 (k134 : Int)).bind fun x138 =>
  (mRunCheck x138).bind fun x149 =>
  if x149 ≠ 0 then (
  some (.inr ((ByteArray.mk #[]), x149)))
  else (
  (cutS l4 0 (k134 : Int)).bind fun l153 =>
  (mSlicesContainsFunc l153 x138.Name x138.Length x138.Mass x138.Start x138.Power x138.Roll x138.Drag x138.Brake x138.Top x138.Seats).bind fun x168 =>
  if x168 = true then (
  some (.inr ((ByteArray.mk #[]), 6)))
  else (
  (sAdd (ByteArray.mk #[115, 116, 111, 99, 107, 32]) x138.Name).bind fun _ =>
  none))

/-- fishplate/run.Text -/
noncomputable def mRunText (l4 : (List ApiStock)) : Option (ByteArray × Int) :=
  if 8 < (l4.length : Int) then (
  some ((ByteArray.mk #[]), 4))
  else (
  (forM (mRunText_L94 l4) l4.length 0 ()).bind fun t => Sum.elim (fun _ =>
  none) (fun q => some q) t)

noncomputable def mRunRead_L968 (l959 : (List (List ByteArray))) (k1592 : Nat) : ((List ApiStock)) → Option (((List ApiStock)) ⊕ (Int × (List ApiStock))) := fun l1591 =>
  (idx l959 (k1592 : Int)).bind fun x1596 =>
  (if (x1596.length : Int) ≠ 11 then (
  some true)
  else (
  (idx x1596 0).bind fun x1642 =>
  if (sEq x1642 (ByteArray.mk #[115, 116, 111, 99, 107])) = true then (
  (idx x1596 1).bind fun x1653 =>
  some (sEq x1653 (ByteArray.mk #[])))
  else (
  some true))).bind (fun x1639 =>
  if x1639 = true then (
  some (.inr (10, [])))
  else (
  (cutS x1596 2 (x1596.length : Int)).bind fun l1665 =>
  (mLineNumbers l1665).bind fun l1680 =>
  (idx x1596 1).bind fun x1794 =>
  (idx l1680 0).bind fun x1804 =>
  (idx l1680 1).bind fun x1814 =>
  (idx l1680 2).bind fun x1824 =>
  (idx l1680 3).bind fun x1834 =>
  (idx l1680 4).bind fun x1844 =>
  (idx l1680 5).bind fun x1854 =>
  (idx l1680 6).bind fun x1864 =>
  (idx l1680 7).bind fun x1874 =>
  (idx l1680 8).bind fun x1884 =>
  (room 88 (l1591.length + 1)).bind fun _ =>
  some (.inl (l1591 ++ [(⟨x1794, x1804, x1814, x1824, x1834, x1844, x1854, x1864, x1874, x1884⟩ : ApiStock)]))))

/-- fishplate/run.Read -/
noncomputable def mRunRead (x1 : ByteArray) : Option (Int × (List ApiStock)) :=
  if 20000 < (x1.size : Int) then (
  some (4, []))
  else (
  (mLineLines x1).bind (unc2 fun x958 l959 =>
  if x958 = true then (
  (forM (mRunRead_L968 l959) l959.length 0 ([] : (List ApiStock))).bind fun t => Sum.elim (fun l1591 =>
  (mRunText l1591).bind (unc2 fun _ x1902 =>
  if x1902 ≠ 0 then (
  some (x1902, []))
  else (
  some (0, l1591)))) (fun q => some q) t)
  else (
  some (10, []))))

/-- fishplate/fishkeep1.awakeRun -/
noncomputable def mFishkeep1AwakeRun : Option (Bool) :=
  (mRunRead (ByteArray.mk #[120])).bind (unc2 fun x11 _ =>
  some (decide (x11 ≠ 0)))

/-- fishplate/run.gone -/
noncomputable def mRunGone (x1 : Int) (x2 : Int) : Option (Int) :=
  (chk (x1 + x2)).bind fun _ =>
  (chk ((x1 + x2) + 1)).bind fun _ =>
  (ne0 2).bind fun _ =>
  (chk (Int.tdiv ((x1 + x2) + 1) 2)).bind fun _ =>
  some (Int.tdiv ((x1 + x2) + 1) 2)

noncomputable def mRunInto_2_L90 (s1 : ApiStock) (x3 : Int) : (Int × Int) → Option ((Int × Int) ⊕ (Int)) := unc2 fun x107 x108 =>
  if x3 < x107 then (
  (chk (s1.Brake - 40)).bind fun _ =>
  (chk (x107 - (s1.Brake - 40))).bind fun _ =>
  (mRunGone x107 (max x3 (x107 - (s1.Brake - 40)))).bind fun x112 =>
  (chk (x108 + x112)).bind fun _ =>
  some (.inl (max x3 (x107 - (s1.Brake - 40)), x108 + x112)))
  else (
  some (.inr x108))

/-- fishplate/run.into -/
noncomputable def mRunInto_2 (s1 : ApiStock) (x2 : Int) (x3 : Int) : Option (Int) :=
  (loopM (mRunInto_2_L90 s1 x3) (x2, 0)).bind (fun x88 =>
  some x88)

/-- fishplate/run.Into -/
noncomputable def mRunInto (s1 : ApiStock) (x2 : Int) (x3 : Int) : Option (Int × Int) :=
  (mRunCheck s1).bind fun x28 =>
  if x28 ≠ 0 then (
  some (0, x28))
  else (
  ((mRunWithin x2 0 6000).bind fun x40 =>
  if x40 = true then (
  (mRunWithin x3 0 6000).bind fun x43 =>
  some (!x43))
  else (
  some true)).bind (fun x38 =>
  if x38 = true then (
  some (0, 2))
  else (
  (mRunInto_2 s1 x2 x3).bind fun x46 =>
  some (x46, 0))))

/-- fishplate/run.Stop -/
noncomputable def mRunStop (s1 : ApiStock) (x2 : Int) : Option (Int × Int) :=
  (mRunInto s1 x2 0).bind (unc2 fun x10 x11 =>
  some (x10, x11))

/-- fishplate/fishkeep1.RunStands -/
noncomputable def mFishkeep1RunStands (s1 : ApiStock) (x2 : Int) (x3 : Int) : Option (Bool) :=
  (mFishkeep1AwakeRun).bind fun x94 =>
  if x94 = true then (
  ((mRunCheck s1).bind fun x107 =>
  if x107 ≠ 0 then (
  some true)
  else (
  if x2 < 1 then (
  some true)
  else (
  if 6000 < x2 then (
  some true)
  else (
  if x3 < 0 then (
  some true)
  else (
  some (decide (6000 < x3))))))).bind (fun x105 =>
  if x105 = true then (
  some true)
  else (
  (chk (s1.Brake - 40)).bind fun _ =>
  (chk (x2 - (s1.Brake - 40))).bind fun _ =>
  (mRunStop s1 x2).bind (unc2 fun x116 x117 =>
  (mRunStop s1 (max (x2 - (s1.Brake - 40)) 0)).bind (unc2 fun x119 x120 =>
  (chk (x2 - 1)).bind fun _ =>
  (mRunStop s1 (x2 - 1)).bind (unc2 fun x123 x124 =>
  (if x117 ≠ 0 then (
  some true)
  else (
  if x120 ≠ 0 then (
  some true)
  else (
  if x124 ≠ 0 then (
  some true)
  else (
  (chk (x2 + (max (x2 - (s1.Brake - 40)) 0))).bind fun _ =>
  (chk ((x2 + (max (x2 - (s1.Brake - 40)) 0)) + 1)).bind fun _ =>
  (ne0 2).bind fun _ =>
  (chk (Int.tdiv ((x2 + (max (x2 - (s1.Brake - 40)) 0)) + 1) 2)).bind fun _ =>
  (chk ((Int.tdiv ((x2 + (max (x2 - (s1.Brake - 40)) 0)) + 1) 2) + x119)).bind fun _ =>
  if x116 ≠ ((Int.tdiv ((x2 + (max (x2 - (s1.Brake - 40)) 0)) + 1) 2) + x119) then (
  some true)
  else (
  some (decide (x116 < x123))))))).bind (fun x137 =>
  if x137 = true then (
  some false)
  else (
  (mRunInto s1 x2 x3).bind (unc2 fun x149 x150 =>
  if x2 ≤ x3 then (
  (if x150 = 0 then (
  some (decide (x149 = 0)))
  else (
  some false)).bind (fun x156 =>
  some x156))
  else (
  (chk (x2 - (s1.Brake - 40))).bind fun _ =>
  (mRunInto s1 (max (x2 - (s1.Brake - 40)) x3) x3).bind (unc2 fun x160 x161 =>
  (if x150 = 0 then (
  if x161 = 0 then (
  (chk (x2 + (max (x2 - (s1.Brake - 40)) x3))).bind fun _ =>
  (chk ((x2 + (max (x2 - (s1.Brake - 40)) x3)) + 1)).bind fun _ =>
  (ne0 2).bind fun _ =>
  (chk (Int.tdiv ((x2 + (max (x2 - (s1.Brake - 40)) x3)) + 1) 2)).bind fun _ =>
  (chk ((Int.tdiv ((x2 + (max (x2 - (s1.Brake - 40)) x3)) + 1) 2) + x160)).bind fun _ =>
  some (decide (x149 = ((Int.tdiv ((x2 + (max (x2 - (s1.Brake - 40)) x3)) + 1) 2) + x160))))
  else (
  some false))
  else (
  some false)).bind (fun x172 =>
  some x172))))))))))))
  else (
  some false)

noncomputable def mRunAllowed_L146 (s1 : ApiStock) (x2 : Int) (x3 : Int) : (Int × Int) → Option ((Int × Int) ⊕ (Int)) := unc2 fun x169 x170 =>
  if x169 < x170 then (
  (chk (x169 + x170)).bind fun _ =>
  (chk ((x169 + x170) + 1)).bind fun _ =>
  (ne0 2).bind fun _ =>
  (chk (Int.tdiv ((x169 + x170) + 1) 2)).bind fun _ =>
  (mRunInto_2 s1 (Int.tdiv ((x169 + x170) + 1) 2) x3).bind fun x176 =>
  if x176 ≤ x2 then (
  some (.inl (Int.tdiv ((x169 + x170) + 1) 2, x170)))
  else (
  (chk ((Int.tdiv ((x169 + x170) + 1) 2) - 1)).bind fun _ =>
  some (.inl (x169, (Int.tdiv ((x169 + x170) + 1) 2) - 1))))
  else (
  some (.inr x169))

/-- fishplate/run.Allowed -/
noncomputable def mRunAllowed (s1 : ApiStock) (x2 : Int) (x3 : Int) : Option (Int × Int) :=
  (mRunCheck s1).bind fun x94 =>
  if x94 ≠ 0 then (
  some (0, x94))
  else (
  (if x2 < 0 then (
  some true)
  else (
  (mRunWithin x3 0 6000).bind fun x105 =>
  some (!x105))).bind (fun x102 =>
  if x102 = true then (
  some (0, 2))
  else (
  (loopM (mRunAllowed_L146 s1 x2 x3) (min x3 s1.Top, s1.Top)).bind (fun x144 =>
  some (x144, 0)))))

/-- fishplate/fishkeep1.RunAllowed -/
noncomputable def mFishkeep1RunAllowed (s1 : ApiStock) (x2 : Int) (x3 : Int) : Option (Bool) :=
  (mFishkeep1AwakeRun).bind fun x39 =>
  if x39 = true then (
  (mRunAllowed s1 x2 x3).bind (unc2 fun x42 x43 =>
  if x43 ≠ 0 then (
  some (decide (x42 = 0)))
  else (
  (mRunInto s1 x42 x3).bind (unc2 fun x46 x47 =>
  (if x47 ≠ 0 then (
  some true)
  else (
  if x2 < x46 then (
  some true)
  else (
  if s1.Top < x42 then (
  some true)
  else (
  some (decide (x42 < (min x3 s1.Top))))))).bind (fun x54 =>
  if x54 = true then (
  some false)
  else (
  if x42 = s1.Top then (
  some true)
  else (
  (chk (x42 + 1)).bind fun _ =>
  (mRunInto s1 (x42 + 1) x3).bind (unc2 fun x62 x63 =>
  (if x63 = 0 then (
  some (decide (x2 < x62)))
  else (
  some false)).bind (fun x68 =>
  some x68)))))))))
  else (
  some false)

/-- fishplate/line.Meets-1 -/
noncomputable def mLineMeets_1 (s1 : ApiNeed) : Option (Bool) :=
  (if s1.Kind = 1 then (
  some true)
  else (
  some (decide (s1.Kind = 2)))).bind (fun x14 =>
  some x14)

/-- fishplate/line.Meets-2 -/
noncomputable def mLineMeets_2 (s2 : ApiNeed) (s3 : ApiNeed) : Option (Bool) :=
  (if s2.Kind = 3 then (
  if s3.Kind = 3 then (
  some (decide (s2.Position ≠ s3.Position)))
  else (
  (mLineMeets_1 s3).bind fun x34 =>
  if x34 = true then (
  some (decide (s2.Position ≠ s3.Position)))
  else (
  some false)))
  else (
  some false)).bind (fun x30 =>
  some x30)

/-- fishplate/line.Meets-3 -/
noncomputable def mLineMeets_3 (s1 : ApiNeed) (s2 : ApiNeed) : Option (Bool) :=
  (if s1.Kind = 4 then (
  some (decide (s2.Kind = 5)))
  else (
  some false)).bind (fun x17 =>
  some x17)

/-- fishplate/line.Meets -/
noncomputable def mLineMeets (s1 : ApiNeed) (s2 : ApiNeed) : Option (Bool) :=
  if s1.Place ≠ s2.Place then (
  some false)
  else (
  ((mLineMeets_1 s1).bind fun x128 =>
  if x128 = true then (
  (mLineMeets_1 s2).bind fun x131 =>
  if x131 = true then (
  some true)
  else (
  (mLineMeets_2 s1 s2).bind fun x134 =>
  if x134 = true then (
  some true)
  else (
  (mLineMeets_2 s2 s1).bind fun x139 =>
  if x139 = true then (
  some true)
  else (
  (mLineMeets_3 s1 s2).bind fun x144 =>
  if x144 = true then (
  some true)
  else (
  (mLineMeets_3 s2 s1).bind fun x147 =>
  some x147)))))
  else (
  (mLineMeets_2 s1 s2).bind fun x149 =>
  if x149 = true then (
  some true)
  else (
  (mLineMeets_2 s2 s1).bind fun x154 =>
  if x154 = true then (
  some true)
  else (
  (mLineMeets_3 s1 s2).bind fun x159 =>
  if x159 = true then (
  some true)
  else (
  (mLineMeets_3 s2 s1).bind fun x162 =>
  some x162))))).bind (fun x126 =>
  some x126))

noncomputable def mRunHeadway_L364 (l8 : (List ApiHold)) (x353 : ApiHold) (k400 : Nat) : (Int) → Option (Int) := fun x399 =>
  (idx l8 (k400 : Int)).bind fun x403 =>
  (mLineMeets x353.Need x403.Need).bind fun x414 =>
  if x414 = true then (
  (chk (x353.To - x403.From)).bind fun _ =>
  some (max x399 (x353.To - x403.From)))
  else (
  some x399)

noncomputable def mRunHeadway_L214 (l4 : (List ApiHold)) (l8 : (List ApiHold)) (k350 : Nat) : (Int) → Option (Int) := fun x349 =>
  (idx l4 (k350 : Int)).bind fun x353 =>
  (forS (mRunHeadway_L364 l8 x353) l8.length 0 x349).bind (fun x399 =>
  some x399)

/-- fishplate/run.Headway -/
noncomputable def mRunHeadway (l4 : (List ApiHold)) (l8 : (List ApiHold)) : Option (Int) :=
  (forS (mRunHeadway_L214 l4 l8) l4.length 0 0).bind (fun x349 =>
  some x349)

noncomputable def mRunConflicts_L666 (l8 : (List ApiHold)) (k652 : Nat) (x655 : ApiHold) (k742 : Nat) : ((List (List Int))) → Option ((List (List Int))) := fun l741 =>
  (idx l8 (k742 : Int)).bind fun x745 =>
  ((mLineMeets x655.Need x745.Need).bind fun x764 =>
  if x764 = true then (
  if x655.From < x745.To then (
  some (decide (x745.From < x655.To)))
  else (
  some false))
  else (
  some false)).bind (fun x762 =>
  if x762 = true then (
  (room 16 (l741.length + 1)).bind fun _ =>
  some (l741 ++ [[(k652 : Int), (k742 : Int)]]))
  else (
  some l741))

noncomputable def mRunConflicts_L395 (l4 : (List ApiHold)) (l8 : (List ApiHold)) (k652 : Nat) : ((List (List Int))) → Option ((List (List Int))) := fun l651 =>
  (idx l4 (k652 : Int)).bind fun x655 =>
  (forS (mRunConflicts_L666 l8 k652 x655) l8.length 0 l651).bind (fun l741 =>
  some l741)

/-- fishplate/run.Conflicts -/
noncomputable def mRunConflicts (l4 : (List ApiHold)) (l8 : (List ApiHold)) : Option ((List (List Int))) :=
  (forS (mRunConflicts_L395 l4 l8) l4.length 0 ([] : (List (List Int)))).bind (fun l651 =>
  some l651)

noncomputable def mFishkeep1RunApart_L452 (x433 : (List ApiHold)) (k478 : Nat) : (Unit) → Option ((Unit) ⊕ ((Unit) ⊕ (Bool))) := fun _ =>
  (idx x433 (k478 : Int)).bind fun x482 =>
  (if x482.From < (-1099511627776) then (
  some true)
  else (
  if 1099511627776 < x482.From then (
  some true)
  else (
  if x482.To < (-1099511627776) then (
  some true)
  else (
  some (decide (1099511627776 < x482.To)))))).bind (fun x498 =>
  if x498 = true then (
  some (.inr (.inr true)))
  else (
  some (.inl ())))

noncomputable def mFishkeep1RunApart_L510 (l8 : (List ApiHold)) (x9 : Int) (x508 : Int) (k599 : Nat) : ((List ApiHold)) → Option (((List ApiHold)) ⊕ (Bool)) := fun l598 =>
  (idx l8 (k599 : Int)).bind fun x603 =>
  ((chk (x603.From + x508)).bind fun _ =>
  (chk ((x603.From + x508) + x9)).bind fun _ =>
  if 1099511627776 < ((x603.From + x508) + x9) then (
  some true)
  else (
  (chk (x603.To + x508)).bind fun _ =>
  (chk ((x603.To + x508) + x9)).bind fun _ =>
  some (decide (1099511627776 < ((x603.To + x508) + x9))))).bind (fun x621 =>
  if x621 = true then (
  some (.inr true))
  else (
  (chk (x603.From + x508)).bind fun _ =>
  (chk ((x603.From + x508) + x9)).bind fun _ =>
  (chk (x603.To + x508)).bind fun _ =>
  (chk ((x603.To + x508) + x9)).bind fun _ =>
  (room 48 (l598.length + 1)).bind fun _ =>
  some (.inl (l598 ++ [(⟨x603.Need, (x603.From + x508) + x9, (x603.To + x508) + x9⟩ : ApiHold)]))))

noncomputable def mFishkeep1RunApart_L352 (l4 : (List ApiHold)) (l8 : (List ApiHold)) (k429 : Nat) : (Unit) → Option ((Unit) ⊕ (Bool)) := fun _ =>
  (idx [l4, l8] (k429 : Int)).bind fun x433 =>
  (forM (mFishkeep1RunApart_L452 x433) x433.length 0 ()).bind fun t => Sum.elim (fun _ =>
  some (.inl ())) (fun q => some q) t

/-- fishplate/fishkeep1.RunApart -/
noncomputable def mFishkeep1RunApart (l4 : (List ApiHold)) (l8 : (List ApiHold)) (x9 : Int) : Option (Bool) :=
  (mFishkeep1AwakeRun).bind fun x341 =>
  if x341 = true then (
  (if x9 < 0 then (
  some true)
  else (
  some (decide (1099511627776 < x9)))).bind (fun x347 =>
  if x347 = true then (
  some true)
  else (
  (forM (mFishkeep1RunApart_L352 l4 l8) 2 0 ()).bind fun t => Sum.elim (fun _ =>
  (mRunHeadway l4 l8).bind fun x508 =>
  (forM (mFishkeep1RunApart_L510 l8 x9 x508) l8.length 0 ([] : (List ApiHold))).bind fun t => Sum.elim (fun l598 =>
  (if 0 ≤ x508 then (
  (mRunConflicts l4 l598).bind fun l663 =>
  some (decide ((l663.length : Int) = 0)))
  else (
  some false)).bind (fun x656 =>
  some x656)) (fun q => some q) t) (fun q => some q) t)))
  else (
  some false)

noncomputable def mRunSmooth_1_L121 (x9 : Int) (l13 : (List Int)) (l15 : (List Int)) (x14 : Int) (k172 : Nat) : (Unit) → Option ((Unit) ⊕ (Bool)) := fun _ =>
  (idx l13 (k172 : Int)).bind fun x176 =>
  (chk (x9 + (k172 : Int))).bind fun _ =>
  (idx l15 (x9 + (k172 : Int))).bind fun x205 =>
  (chk (x205 + x176)).bind fun _ =>
  if x14 < (x205 + x176) then (
  some (.inr false))
  else (
  some (.inl ()))

/-- fishplate/run.Smooth-1 -/
noncomputable def mRunSmooth_1 (x9 : Int) (l13 : (List Int)) (x14 : Int) (l15 : (List Int)) : Option (Bool) :=
  (forM (mRunSmooth_1_L121 x9 l13 l15 x14) l13.length 0 ()).bind fun t => Sum.elim (fun _ =>
  some true) (fun q => some q) t

noncomputable def mRunSmooth_L1184 (x1171 : (List Int)) (k1201 : Nat) : (Unit) → Option ((Unit) ⊕ ((Unit) ⊕ (Int × (List Int)))) := fun _ =>
  (idx x1171 (k1201 : Int)).bind fun x1205 =>
  (mRunWithin x1205 0 1125899906842624).bind fun x1215 =>
  if x1215 = true then (
  some (.inl ()))
  else (
  some (.inr (.inr (2, []))))

noncomputable def mRunSmooth_L1919 (x5 : Int) (x6 : Int) (l1842 : (List Int)) (x1848 : (List Int)) : (Int) → Option ((Int) ⊕ (Int)) := fun x1955 =>
  (if x1955 ≤ x6 then (
  (mRunSmooth_1 x1955 x1848 x5 l1842).bind fun x1966 =>
  some (!x1966))
  else (
  some false)).bind (fun x1963 =>
  if x1963 = true then (
  (chk (x1955 + 1)).bind fun _ =>
  some (.inl (x1955 + 1)))
  else (
  some (.inr x1955)))

noncomputable def mRunSmooth_L1974 (x1848 : (List Int)) (x1917 : Int) (k2080 : Nat) : ((List Int)) → Option ((List Int)) := fun l2078 =>
  (idx x1848 (k2080 : Int)).bind fun x2083 =>
  (chk (x1917 + (k2080 : Int))).bind fun _ =>
  (idx l2078 (x1917 + (k2080 : Int))).bind fun x2094 =>
  (chk (x2094 + x2083)).bind fun _ =>
  (idx l2078 (x1917 + (k2080 : Int))).bind fun _ =>
  some (put l2078 (x1917 + (k2080 : Int)) (x2094 + x2083))

noncomputable def mRunSmooth_L1245 (l4 : (List (List Int))) (x5 : Int) (x6 : Int) (k1844 : Nat) : ((List Int) × (List Int)) → Option (((List Int) × (List Int)) ⊕ (Int × (List Int))) := unc2 fun l1841 l1842 =>
  (idx l4 (k1844 : Int)).bind fun x1848 =>
  (loopM (mRunSmooth_L1919 x5 x6 l1842 x1848) 0).bind (fun x1917 =>
  if x6 < x1917 then (
  some (.inr (9, [])))
  else (
  (forS (mRunSmooth_L1974 x1848 x1917) x1848.length 0 l1842).bind (fun l2078 =>
  (room 8 (l1841.length + 1)).bind fun _ =>
  some (.inl (l1841 ++ [x1917], l2078)))))

noncomputable def mRunSmooth_L1115 (l4 : (List (List Int))) (k1167 : Nat) : (Unit) → Option ((Unit) ⊕ (Int × (List Int))) := fun _ =>
  (idx l4 (k1167 : Int)).bind fun x1171 =>
  (forM (mRunSmooth_L1184 x1171) x1171.length 0 ()).bind fun t => Sum.elim (fun _ =>
  some (.inl ())) (fun q => some q) t

noncomputable def mRunSmooth_L1077 (l4 : (List (List Int))) (k1095 : Nat) : (Unit) → Option ((Unit) ⊕ (Int × (List Int))) := fun _ =>
  (idx l4 (k1095 : Int)).bind fun x1099 =>
  if 3600 < (x1099.length : Int) then (
  some (.inr (4, [])))
  else (
  some (.inl ()))

/-- fishplate/run.Smooth -/
noncomputable def mRunSmooth (l4 : (List (List Int))) (x5 : Int) (x6 : Int) : Option (Int × (List Int)) :=
  if 12 < (l4.length : Int) then (
  some (4, []))
  else (
  (forM (mRunSmooth_L1077 l4) l4.length 0 ()).bind fun t => Sum.elim (fun _ =>
  (forM (mRunSmooth_L1115 l4) l4.length 0 ()).bind fun t => Sum.elim (fun _ =>
  ((mRunWithin x5 0 36028797018963968).bind fun x1231 =>
  if x1231 = true then (
  (mRunWithin x6 0 3600).bind fun x1234 =>
  some (!x1234))
  else (
  some true)).bind (fun x1229 =>
  if x1229 = true then (
  some (2, []))
  else (
  (chk (x6 + 3600)).bind fun _ =>
  (mkLen 8 (x6 + 3600)).bind fun m1238 =>
  (forM (mRunSmooth_L1245 l4 x5 x6) l4.length 0 (([], List.replicate m1238 (0 : Int)) : (List Int) × (List Int))).bind fun t => Sum.elim (unc2 fun l1841 _ =>
  some (0, l1841)) (fun q => some q) t))) (fun q => some q) t) (fun q => some q) t)

noncomputable def mFishkeep1Fits_L68 (l4 : (List Int)) (l8 : (List Int)) (x9 : Int) (x10 : Int) (k95 : Nat) : (Unit) → Option ((Unit) ⊕ (Bool)) := fun _ =>
  (idx l8 (k95 : Int)).bind fun x99 =>
  (chk (x9 + (k95 : Int))).bind fun _ =>
  (idx l4 (x9 + (k95 : Int))).bind fun x110 =>
  (chk (x110 + x99)).bind fun _ =>
  if x10 < (x110 + x99) then (
  some (.inr false))
  else (
  some (.inl ()))

/-- fishplate/fishkeep1.fits -/
noncomputable def mFishkeep1Fits (l4 : (List Int)) (l8 : (List Int)) (x9 : Int) (x10 : Int) : Option (Bool) :=
  (forM (mFishkeep1Fits_L68 l4 l8 x9 x10) l8.length 0 ()).bind fun t => Sum.elim (fun _ =>
  some true) (fun q => some q) t

noncomputable def mFishkeep1RunSmooth_L2278 (k2077 : Nat) (l1249 : (List Int)) (x2081 : (List Int)) (k2416 : Nat) : ((List Int)) → Option ((List Int)) := fun l2414 =>
  (idx x2081 (k2416 : Int)).bind fun x2419 =>
  (idx l1249 (k2077 : Int)).bind fun x2429 =>
  (chk (x2429 + (k2416 : Int))).bind fun _ =>
  (idx l2414 (x2429 + (k2416 : Int))).bind fun x2446 =>
  (chk (x2446 + x2419)).bind fun _ =>
  (idx l2414 (x2429 + (k2416 : Int))).bind fun _ =>
  some (put l2414 (x2429 + (k2416 : Int)) (x2446 + x2419))

noncomputable def mFishkeep1RunSmooth_L1265 (l4 : (List (List Int))) (x5 : Int) (x6 : Int) (l1249 : (List Int)) (k2077 : Nat) : ((List Int)) → Option (((List Int)) ⊕ (Bool)) := fun l2075 =>
  (idx l4 (k2077 : Int)).bind fun x2081 =>
  ((idx l1249 (k2077 : Int)).bind fun x2187 =>
  if x2187 < 0 then (
  some true)
  else (
  (idx l1249 (k2077 : Int)).bind fun x2204 =>
  if x6 < x2204 then (
  some true)
  else (
  (idx l1249 (k2077 : Int)).bind fun x2221 =>
  (mFishkeep1Fits l2075 x2081 x2221 x5).bind fun x2237 =>
  if x2237 = true then (
  (idx l1249 (k2077 : Int)).bind fun x2240 =>
  if 0 < x2240 then (
  (idx l1249 (k2077 : Int)).bind fun x2257 =>
  (chk (x2257 - 1)).bind fun _ =>
  (mFishkeep1Fits l2075 x2081 (x2257 - 1) x5).bind fun x2274 =>
  some x2274)
  else (
  some false))
  else (
  some true)))).bind (fun x2185 =>
  if x2185 = true then (
  some (.inr false))
  else (
  (forS (mFishkeep1RunSmooth_L2278 k2077 l1249 x2081) x2081.length 0 l2075).bind (fun l2414 =>
  some (.inl l2414))))

/-- fishplate/fishkeep1.RunSmooth -/
noncomputable def mFishkeep1RunSmooth (l4 : (List (List Int))) (x5 : Int) (x6 : Int) : Option (Bool) :=
  (mFishkeep1AwakeRun).bind fun x1245 =>
  if x1245 = true then (
  (mRunSmooth l4 x5 x6).bind (unc2 fun x1248 l1249 =>
  if x1248 ≠ 0 then (
  some (decide ((l1249.length : Int) = 0)))
  else (
  if (l1249.length : Int) ≠ (l4.length : Int) then (
  some false)
  else (
  (mkLen 8 7201).bind fun m1259 =>
  (forM (mFishkeep1RunSmooth_L1265 l4 x5 x6 l1249) l4.length 0 (List.replicate m1259 (0 : Int))).bind fun t => Sum.elim (fun _ =>
  some true) (fun q => some q) t))))
  else (
  some false)

noncomputable def mRunCheck_2_L161 (l5 : (List ApiPiece)) (k233 : Nat) : (Int) → Option ((Int) ⊕ (Int)) := fun x232 =>
  (idx l5 (k233 : Int)).bind fun x237 =>
  ((mRunWithin x237.Length 1 300000).bind fun x260 =>
  if x260 = true then (
  (mRunWithin x237.Grade (-40) 40).bind fun x263 =>
  if x263 = true then (
  (mRunWithin x237.Speed 1 6000).bind fun x266 =>
  some (!x266))
  else (
  some true))
  else (
  some true)).bind (fun x258 =>
  if x258 = true then (
  some (.inr 2))
  else (
  (chk (x232 + x237.Length)).bind fun _ =>
  some (.inl (x232 + x237.Length))))

/-- fishplate/run.check -/
noncomputable def mRunCheck_2 (s1 : ApiStock) (l5 : (List ApiPiece)) (s6 : ApiState) (x7 : Int) : Option (Int) :=
  (mRunCheck s1).bind fun x156 =>
  if x156 ≠ 0 then (
  some x156)
  else (
  if (l5.length : Int) = 0 then (
  some 1)
  else (
  if 60 < (l5.length : Int) then (
  some 4)
  else (
  (forM (mRunCheck_2_L161 l5) l5.length 0 0).bind fun t => Sum.elim (fun x232 =>
  ((mRunWithin x7 0 x232).bind fun x287 =>
  if x287 = true then (
  (mRunWithin s6.At 0 x7).bind fun x290 =>
  if x290 = true then (
  (mRunWithin s6.Speed 0 s1.Top).bind fun x293 =>
  if x293 = true then (
  (mRunWithin s6.Work 0 1152921504606846976).bind fun x296 =>
  some (!x296))
  else (
  some true))
  else (
  some true))
  else (
  some true)).bind (fun x285 =>
  if x285 = true then (
  some 2)
  else (
  some 0))) (fun q => some q) t)))

noncomputable def mRunNewRunner_L240 (l5 : (List ApiPiece)) (k372 : Nat) : ((List Int)) → Option ((List Int)) := fun l371 =>
  (idx l5 (k372 : Int)).bind fun x375 =>
  (idx l371 (k372 : Int)).bind fun x409 =>
  (chk (x409 + x375.Length)).bind fun _ =>
  (room 8 (l371.length + 1)).bind fun _ =>
  some (l371 ++ [x409 + x375.Length])

/-- fishplate/run.newRunner -/
noncomputable def mRunNewRunner (s1 : ApiStock) (l5 : (List ApiPiece)) (x6 : Int) (x7 : Int) : Option (ByteArray × Int × Int × Int × Int × Int × Int × Int × Int × Int × (List ApiPiece) × Int × Int × (List Int) × (List (Int × (List Int)))) :=
  (forS (mRunNewRunner_L240 l5) l5.length 0 [0]).bind (fun l371 =>
  some (s1.Name, s1.Length, s1.Mass, s1.Start, s1.Power, s1.Roll, s1.Drag, s1.Brake, s1.Top, s1.Seats, l5, x6, x7, l371, ([] : (List (Int × (List Int))))))

noncomputable def mRunRunnerGrade_L460 (l25 : (List ApiPiece)) (l28 : (List Int)) (x11 : Int) : (Int) → Option ((Int) ⊕ (Int)) := fun x552 =>
  ((chk (x552 + 1)).bind fun _ =>
  if (x552 + 1) < (l25.length : Int) then (
  (chk (x552 + 1)).bind fun _ =>
  (idx l28 (x552 + 1)).bind fun x579 =>
  some (decide (x579 ≤ x11)))
  else (
  some false)).bind (fun x574 =>
  if x574 = true then (
  (chk (x552 + 1)).bind fun _ =>
  some (.inl (x552 + 1)))
  else (
  some (.inr x552)))

/-- (*fishplate/run.runner).grade -/
noncomputable def mRunRunnerGrade (x11 : Int) (_x12 : ByteArray) (_x13 : Int) (_x14 : Int) (_x15 : Int) (_x16 : Int) (_x17 : Int) (_x18 : Int) (_x19 : Int) (_x20 : Int) (_x21 : Int) (l25 : (List ApiPiece)) (_x26 : Int) (_x27 : Int) (l28 : (List Int)) (_l29 : (List (Int × (List Int)))) : Option (Int) :=
  (loopM (mRunRunnerGrade_L460 l25 l28 x11) 0).bind (fun x458 =>
  (idx l25 x458).bind fun x597 =>
  some x597.Grade)

/-- fishplate/run.pull -/
noncomputable def mRunPull (s1 : ApiStock) (x2 : Int) : Option (Int) :=
  if x2 = 0 then (
  some s1.Start)
  else (
  (ne0 x2).bind fun _ =>
  (chk (Int.tdiv s1.Power x2)).bind fun _ =>
  some (min s1.Start (Int.tdiv s1.Power x2)))

/-- fishplate/run.gain -/
noncomputable def mRunGain (s1 : ApiStock) (x2 : Int) (x3 : Int) : Option (Int) :=
  (mRunPull s1 x2).bind fun x31 =>
  (chk (x31 - s1.Roll)).bind fun _ =>
  (chk (x2 * x2)).bind fun _ =>
  (ne0 s1.Drag).bind fun _ =>
  (chk (Int.tdiv (x2 * x2) s1.Drag)).bind fun _ =>
  (chk ((x31 - s1.Roll) - (Int.tdiv (x2 * x2) s1.Drag))).bind fun _ =>
  (chk (((x31 - s1.Roll) - (Int.tdiv (x2 * x2) s1.Drag)) - x3)).bind fun _ =>
  some (((x31 - s1.Roll) - (Int.tdiv (x2 * x2) s1.Drag)) - x3)

noncomputable def mRunRunnerInto_L988 (x11 : Int) (x12 : Int) (x20 : Int) : (Int × (List Int)) → Option ((Int × (List Int)) ⊕ ((List Int))) := unc2 fun x1191 l1192 =>
  if x1191 ≤ x11 then (
  (if x12 < x1191 then (
  (chk (x20 - 40)).bind fun _ =>
  (chk (x1191 - (x20 - 40))).bind fun _ =>
  (mRunGone x1191 (max x12 (x1191 - (x20 - 40)))).bind fun x1261 =>
  (idx l1192 (max x12 (x1191 - (x20 - 40)))).bind fun x1263 =>
  (chk (x1261 + x1263)).bind fun _ =>
  some (x1261 + x1263))
  else (
  some 0)).bind (fun x1237 =>
  (room 8 (l1192.length + 1)).bind fun _ =>
  (chk (x1191 + 1)).bind fun _ =>
  some (.inl (x1191 + 1, l1192 ++ [x1237]))))
  else (
  some (.inr l1192))

/-- (*fishplate/run.runner).into -/
noncomputable def mRunRunnerInto (x11 : Int) (x12 : Int) (_x13 : ByteArray) (_x14 : Int) (_x15 : Int) (_x16 : Int) (_x17 : Int) (_x18 : Int) (_x19 : Int) (x20 : Int) (_x21 : Int) (_x22 : Int) (_l26 : (List ApiPiece)) (_x27 : Int) (_x28 : Int) (_l29 : (List Int)) (l30 : (List (Int × (List Int)))) : Option (Int × (List (Int × (List Int)))) :=
  if x11 ≤ x12 then (
  some (0, l30))
  else (
  (loopM (mRunRunnerInto_L988 x11 x12 x20) ((((mgetD l30 x12 []).length : Int), mgetD l30 x12 []) : Int × (List Int))).bind (fun l986 =>
  (idx l986 x11).bind fun x1290 =>
  some (x1290, mput l30 x12 l986)))

noncomputable def mRunRunnerMay_L373 (l27 : (List ApiPiece)) (l30 : (List Int)) (x11 : Int) (x12 : Int) (x13 : Int) (x14 : ByteArray) (x15 : Int) (x16 : Int) (x17 : Int) (x18 : Int) (x19 : Int) (x20 : Int) (x21 : Int) (x22 : Int) (x23 : Int) (x28 : Int) (x29 : Int) (k541 : Nat) : ((List (Int × (List Int)))) → Option (((List (Int × (List Int)))) ⊕ (Bool × (List (Int × (List Int))))) := fun l540 =>
  (idx l27 (k541 : Int)).bind fun x545 =>
  (idx l30 (k541 : Int)).bind fun x556 =>
  if x12 ≤ x556 then (
  (mRunRunnerInto x13 x545.Speed x14 x15 x16 x17 x18 x19 x20 x21 x22 x23 l27 x28 x29 l30 l540).bind (unc2 fun x573 l574 =>
  (chk (x556 - x12)).bind fun _ =>
  if (x556 - x12) < x573 then (
  some (.inr (false, l574)))
  else (
  some (.inl l574))))
  else (
  ((chk ((k541 : Int) + 1)).bind fun _ =>
  (idx l30 ((k541 : Int) + 1)).bind fun x606 =>
  if x11 < x606 then (
  some (decide (x545.Speed < x13)))
  else (
  some false)).bind (fun x603 =>
  if x603 = true then (
  some (.inr (false, l540)))
  else (
  some (.inl l540))))

/-- (*fishplate/run.runner).may -/
noncomputable def mRunRunnerMay (x11 : Int) (x12 : Int) (x13 : Int) (x14 : ByteArray) (x15 : Int) (x16 : Int) (x17 : Int) (x18 : Int) (x19 : Int) (x20 : Int) (x21 : Int) (x22 : Int) (x23 : Int) (l27 : (List ApiPiece)) (x28 : Int) (x29 : Int) (l30 : (List Int)) (l31 : (List (Int × (List Int)))) : Option (Bool × (List (Int × (List Int)))) :=
  ((mRunRunnerInto x13 0 x14 x15 x16 x17 x18 x19 x20 x21 x22 x23 l27 x28 x29 l30 l31).bind (unc2 fun x364 l365 =>
  (chk (x28 - x12)).bind fun _ =>
  some (decide ((x28 - x12) < x364), l365))).bind (unc2 fun x353 l354 =>
  if x353 = true then (
  some (false, l354))
  else (
  (forM (mRunRunnerMay_L373 l27 l30 x11 x12 x13 x14 x15 x16 x17 x18 x19 x20 x21 x22 x23 x28 x29) l27.length 0 l354).bind fun t => Sum.elim (fun l540 =>
  some (true, l540)) (fun q => some q) t))

noncomputable def mRunRunnerSecond_L835 (l25 : (List ApiPiece)) (l28 : (List Int)) (s11 : ApiState) (x12 : ByteArray) (x13 : Int) (x14 : Int) (x15 : Int) (x16 : Int) (x17 : Int) (x18 : Int) (x19 : Int) (x20 : Int) (x21 : Int) (x26 : Int) (x27 : Int) (x592 : Int) : (Int × (List (Int × (List Int)))) → Option ((Int × (List (Int × (List Int)))) ⊕ (Int × (List (Int × (List Int))))) := unc2 fun x982 l983 =>
  (if (max 0 (s11.Speed - (x19 + x592))) ≤ x982 then (
  (chk (100 * x13)).bind fun _ =>
  (chk (s11.At - (100 * x13))).bind fun _ =>
  (mRunGone s11.Speed x982).bind fun x1038 =>
  (chk (s11.At + x1038)).bind fun _ =>
  (mRunRunnerMay (s11.At - (100 * x13)) (s11.At + x1038) x982 x12 x13 x14 x15 x16 x17 x18 x19 x20 x21 l25 x26 x27 l28 l983).bind (unc2 fun x1041 l1042 =>
  some (!x1041, l1042)))
  else (
  some (false, l983))).bind (unc2 fun x1018 l1019 =>
  if x1018 = true then (
  (chk (x982 - 1)).bind fun _ =>
  some (.inl (x982 - 1, l1019)))
  else (
  some (.inr (x982, l1019))))

/-- (*fishplate/run.runner).second -/
noncomputable def mRunRunnerSecond (s11 : ApiState) (x12 : ByteArray) (x13 : Int) (x14 : Int) (x15 : Int) (x16 : Int) (x17 : Int) (x18 : Int) (x19 : Int) (x20 : Int) (x21 : Int) (l25 : (List ApiPiece)) (x26 : Int) (x27 : Int) (l28 : (List Int)) (l29 : (List (Int × (List Int)))) : Option (Int × Int × Int × (List (Int × (List Int)))) :=
  ((mRunRunnerGrade s11.At x12 x13 x14 x15 x16 x17 x18 x19 x20 x21 l25 x26 x27 l28 l29).bind fun x598 =>
  some x598).bind (fun x592 =>
  (chk (x19 + x592)).bind fun _ =>
  (chk (s11.Speed - (x19 + x592))).bind fun _ =>
  (mRunGain (⟨x12, x13, x14, x15, x16, x17, x18, x19, x20, x21⟩ : ApiStock) s11.Speed x592).bind fun x607 =>
  (chk (s11.Speed + x607)).bind fun _ =>
  (loopM (mRunRunnerSecond_L835 l25 l28 s11 x12 x13 x14 x15 x16 x17 x18 x19 x20 x21 x26 x27 x592) (min (s11.Speed + x607) x27, l29)).bind (unc2 fun x832 l833 =>
  ((mRunGone s11.Speed (max x832 (max 0 (s11.Speed - (x19 + x592))))).bind fun x1068 =>
  (chk (s11.At + x1068)).bind fun _ =>
  some (s11.At + x1068)).bind (fun x1062 =>
  ((chk ((max x832 (max 0 (s11.Speed - (x19 + x592)))) - s11.Speed)).bind fun _ =>
  (chk (((max x832 (max 0 (s11.Speed - (x19 + x592)))) - s11.Speed) + x17)).bind fun _ =>
  (chk (s11.Speed * s11.Speed)).bind fun _ =>
  (ne0 x18).bind fun _ =>
  (chk (Int.tdiv (s11.Speed * s11.Speed) x18)).bind fun _ =>
  (chk ((((max x832 (max 0 (s11.Speed - (x19 + x592)))) - s11.Speed) + x17) + (Int.tdiv (s11.Speed * s11.Speed) x18))).bind fun _ =>
  (chk (((((max x832 (max 0 (s11.Speed - (x19 + x592)))) - s11.Speed) + x17) + (Int.tdiv (s11.Speed * s11.Speed) x18)) + x592)).bind fun _ =>
  if 0 < (((((max x832 (max 0 (s11.Speed - (x19 + x592)))) - s11.Speed) + x17) + (Int.tdiv (s11.Speed * s11.Speed) x18)) + x592) then (
  (chk (x14 * (((((max x832 (max 0 (s11.Speed - (x19 + x592)))) - s11.Speed) + x17) + (Int.tdiv (s11.Speed * s11.Speed) x18)) + x592))).bind fun _ =>
  (chk (x1062 - s11.At)).bind fun _ =>
  (chk ((x14 * (((((max x832 (max 0 (s11.Speed - (x19 + x592)))) - s11.Speed) + x17) + (Int.tdiv (s11.Speed * s11.Speed) x18)) + x592)) * (x1062 - s11.At))).bind fun _ =>
  (chk (s11.Work + ((x14 * (((((max x832 (max 0 (s11.Speed - (x19 + x592)))) - s11.Speed) + x17) + (Int.tdiv (s11.Speed * s11.Speed) x18)) + x592)) * (x1062 - s11.At)))).bind fun _ =>
  some (s11.Work + ((x14 * (((((max x832 (max 0 (s11.Speed - (x19 + x592)))) - s11.Speed) + x17) + (Int.tdiv (s11.Speed * s11.Speed) x18)) + x592)) * (x1062 - s11.At))))
  else (
  some s11.Work)).bind (fun x1097 =>
  some (x1062, max x832 (max 0 (s11.Speed - (x19 + x592))), x1097, l833)))))

noncomputable def mRunRunnerStates_L221 (l25 : (List ApiPiece)) (l28 : (List Int)) (x12 : ByteArray) (x13 : Int) (x14 : Int) (x15 : Int) (x16 : Int) (x17 : Int) (x18 : Int) (x19 : Int) (x20 : Int) (x21 : Int) (x26 : Int) (x27 : Int) (_k344 : Nat) : ((List ApiState) × (List (Int × (List Int)))) → Option (((List ApiState) × (List (Int × (List Int)))) ⊕ (Bool × (List ApiState) × (List (Int × (List Int))))) := unc2 fun l342 l343 =>
  (chk ((l342.length : Int) - 1)).bind fun _ =>
  (idx l342 ((l342.length : Int) - 1)).bind fun x349 =>
  (if x349.Speed = 0 then (
  (chk (x26 - x349.At)).bind fun _ =>
  some (decide ((x26 - x349.At) ≤ 100)))
  else (
  some false)).bind (fun x371 =>
  if x371 = true then (
  some (.inr (true, put l342 ((l342.length : Int) - 1) (⟨x26, x349.Speed, x349.Work⟩ : ApiState), l343)))
  else (
  (mRunRunnerSecond x349 x12 x13 x14 x15 x16 x17 x18 x19 x20 x21 l25 x26 x27 l28 l343).bind (unc4 fun x381 x382 x383 l384 =>
  (room 24 (l342.length + 1)).bind fun _ =>
  some (.inl (l342 ++ [(⟨x381, x382, x383⟩ : ApiState)], l384)))))

/-- (*fishplate/run.runner).states -/
noncomputable def mRunRunnerStates (x11 : Int) (x12 : ByteArray) (x13 : Int) (x14 : Int) (x15 : Int) (x16 : Int) (x17 : Int) (x18 : Int) (x19 : Int) (x20 : Int) (x21 : Int) (l25 : (List ApiPiece)) (x26 : Int) (x27 : Int) (l28 : (List Int)) (l29 : (List (Int × (List Int)))) : Option (Bool × (List ApiState) × (List (Int × (List Int)))) :=
  (forM (mRunRunnerStates_L221 l25 l28 x12 x13 x14 x15 x16 x17 x18 x19 x20 x21 x26 x27) 3601 0 ([(⟨x11, 0, 0⟩ : ApiState)], l29)).bind fun t => Sum.elim (unc2 fun _ l343 =>
  some (false, [], l343)) (fun q => some q) t

/-- fishplate/run.states -/
noncomputable def mRunStates (s1 : ApiStock) (l5 : (List ApiPiece)) (x6 : Int) (x7 : Int) (x8 : Int) : Option (Int × (List ApiState)) :=
  (mRunNewRunner s1 l5 x7 x8).bind (unc15 fun x61 x62 x63 x64 x65 x66 x67 x68 x69 x70 l71 x72 x73 l74 l75 =>
  (mRunRunnerStates x6 x61 x62 x63 x64 x65 x66 x67 x68 x69 x70 l71 x72 x73 l74 l75).bind (unc3 fun x90 l91 _ =>
  if x90 = true then (
  some (0, l91))
  else (
  some (4, []))))

/-- fishplate/run.Go -/
noncomputable def mRunGo (s1 : ApiStock) (l5 : (List ApiPiece)) (x6 : Int) (x7 : Int) : Option (Int × (List ApiState)) :=
  (mRunCheck_2 s1 l5 (⟨x6, 0, 0⟩ : ApiState) x7).bind fun x29 =>
  if x29 ≠ 0 then (
  some (x29, []))
  else (
  (mRunStates s1 l5 x6 x7 s1.Top).bind (unc2 fun x32 l33 =>
  some (x32, l33)))

/-- fishplate/run.Gain -/
noncomputable def mRunGain_2 (s1 : ApiStock) (x2 : Int) (x3 : Int) : Option (Int × Int) :=
  (mRunCheck s1).bind fun x28 =>
  if x28 ≠ 0 then (
  some (0, x28))
  else (
  ((mRunWithin x2 0 6000).bind fun x40 =>
  if x40 = true then (
  (mRunWithin x3 (-40) 40).bind fun x43 =>
  some (!x43))
  else (
  some true)).bind (fun x38 =>
  if x38 = true then (
  some (0, 2))
  else (
  (mRunGain s1 x2 x3).bind fun x46 =>
  some (x46, 0))))

noncomputable def mFishkeep1SecondKeeps_L195 (l5 : (List ApiPiece)) (s1 : ApiStock) (s6 : ApiState) (s7 : ApiState) (k269 : Nat) : (Int × Int) → Option ((Int × Int) ⊕ (Bool)) := unc2 fun x267 x268 =>
  (idx l5 (k269 : Int)).bind fun x273 =>
  (if x268 ≤ s6.At then (
  some x273.Grade)
  else (
  some x267)).bind (fun x287 =>
  (if x268 < (s6.At + (Int.tdiv ((s6.Speed + s7.Speed) + 1) 2)) then (
  (chk (x268 + x273.Length)).bind fun _ =>
  (chk (100 * s1.Length)).bind fun _ =>
  (chk (s6.At - (100 * s1.Length))).bind fun _ =>
  if (s6.At - (100 * s1.Length)) < (x268 + x273.Length) then (
  some (decide (x273.Speed < s7.Speed)))
  else (
  some false))
  else (
  some false)).bind (fun x297 =>
  if x297 = true then (
  some (.inr false))
  else (
  (chk (x268 + x273.Length)).bind fun _ =>
  some (.inl (x287, x268 + x273.Length)))))

/-- fishplate/fishkeep1.secondKeeps -/
noncomputable def mFishkeep1SecondKeeps (s1 : ApiStock) (l5 : (List ApiPiece)) (s6 : ApiState) (s7 : ApiState) (x8 : Int) (x9 : Bool) : Option (Bool) :=
  (chk (s6.Speed + s7.Speed)).bind fun _ =>
  (chk ((s6.Speed + s7.Speed) + 1)).bind fun _ =>
  (ne0 2).bind fun _ =>
  (chk (Int.tdiv ((s6.Speed + s7.Speed) + 1) 2)).bind fun _ =>
  (chk (s6.At + (Int.tdiv ((s6.Speed + s7.Speed) + 1) 2))).bind fun _ =>
  (if s7.At ≠ (s6.At + (Int.tdiv ((s6.Speed + s7.Speed) + 1) 2)) then (
  if x9 = true then (
  if (s6.At + (Int.tdiv ((s6.Speed + s7.Speed) + 1) 2)) ≤ x8 then (
  (chk (x8 - (s6.At + (Int.tdiv ((s6.Speed + s7.Speed) + 1) 2)))).bind fun _ =>
  if (x8 - (s6.At + (Int.tdiv ((s6.Speed + s7.Speed) + 1) 2))) ≤ 100 then (
  if s1.Top < s7.Speed then (
  some true)
  else (
  some (decide (x8 < s7.At))))
  else (
  some true))
  else (
  some true))
  else (
  some true))
  else (
  if s1.Top < s7.Speed then (
  some true)
  else (
  some (decide (x8 < s7.At))))).bind (fun x185 =>
  if x185 = true then (
  some false)
  else (
  (forM (mFishkeep1SecondKeeps_L195 l5 s1 s6 s7) l5.length 0 (0, 0)).bind fun t => Sum.elim (unc2 fun x267 _ =>
  (mRunGain_2 s1 s6.Speed x267).bind (unc2 fun x308 x309 =>
  (chk (s6.Speed - s1.Brake)).bind fun _ =>
  (chk ((s6.Speed - s1.Brake) - x267)).bind fun _ =>
  (if x309 = 0 then (
  (chk (s6.Speed + x308)).bind fun _ =>
  if s7.Speed ≤ (max (s6.Speed + x308) (max ((s6.Speed - s1.Brake) - x267) 0)) then (
  if (max ((s6.Speed - s1.Brake) - x267) 0) ≤ s7.Speed then (
  some (decide (s6.Work ≤ s7.Work)))
  else (
  some false))
  else (
  some false))
  else (
  some false)).bind (fun x319 =>
  some x319))) (fun q => some q) t))

noncomputable def mFishkeep1RunKeeps_L1080 (l5 : (List ApiPiece)) (s1 : ApiStock) (x7 : Int) (l663 : (List ApiState)) : (Int) → Option ((Int) ⊕ ((Unit) ⊕ (Bool))) := fun x1230 =>
  if x1230 ≤ ((l663.length : Int) - 1) then (
  (chk (x1230 - 1)).bind fun _ =>
  (idx l663 (x1230 - 1)).bind fun x1268 =>
  (idx l663 x1230).bind fun x1284 =>
  (mFishkeep1SecondKeeps s1 l5 x1268 x1284 x7 (decide (x1230 = ((l663.length : Int) - 1)))).bind fun x1300 =>
  if x1300 = true then (
  (chk (x1230 + 1)).bind fun _ =>
  some (.inl (x1230 + 1)))
  else (
  some (.inr (.inr false))))
  else (
  some (.inr (.inl ())))

/-- fishplate/fishkeep1.RunKeeps -/
noncomputable def mFishkeep1RunKeeps (s1 : ApiStock) (l5 : (List ApiPiece)) (x6 : Int) (x7 : Int) : Option (Bool) :=
  (mFishkeep1AwakeRun).bind fun x659 =>
  if x659 = true then (
  (mRunGo s1 l5 x6 x7).bind (unc2 fun x662 l663 =>
  if x662 ≠ 0 then (
  some (decide ((l663.length : Int) = 0)))
  else (
  (chk ((l663.length : Int) - 1)).bind fun _ =>
  (if ((l663.length : Int) - 1) < 0 then (
  some true)
  else (
  if 3600 < ((l663.length : Int) - 1) then (
  some true)
  else (
  (idx l663 0).bind fun x766 =>
  if x766.Speed ≠ 0 then (
  some true)
  else (
  (idx l663 0).bind fun x783 =>
  if x783.Work ≠ 0 then (
  some true)
  else (
  (idx l663 ((l663.length : Int) - 1)).bind fun x800 =>
  if x800.Speed ≠ 0 then (
  some true)
  else (
  (idx l663 ((l663.length : Int) - 1)).bind fun x817 =>
  if x817.At ≠ x7 then (
  some true)
  else (
  if 0 < ((l663.length : Int) - 1) then (
  (idx l663 0).bind fun x835 =>
  some (decide (x835.At ≠ x6)))
  else (
  some false)))))))).bind (fun x762 =>
  if x762 = true then (
  some false)
  else (
  (loopM (mFishkeep1RunKeeps_L1080 l5 s1 x7 l663) 1).bind fun t => Sum.elim (fun _ =>
  some true) (fun r1306 => some r1306) t)))))
  else (
  some false)

noncomputable def mRunSaving_L190 (l5 : (List ApiPiece)) (s1 : ApiStock) (x6 : Int) (x7 : Int) (x8 : Int) (k214 : Nat) : (Unit) → Option ((Unit) ⊕ ((Unit) ⊕ (Int × Int))) := fun _ =>
  (chk (50 * (k214 : Int))).bind fun _ =>
  (chk (500 + (50 * (k214 : Int)))).bind fun _ =>
  (mRunStates s1 l5 x6 x7 (min s1.Top (500 + (50 * (k214 : Int))))).bind (unc2 fun x220 l221 =>
  (if x220 = 0 then (
  (chk ((l221.length : Int) - 1)).bind fun _ =>
  some (decide (((l221.length : Int) - 1) ≤ x8)))
  else (
  some false)).bind (fun x233 =>
  if x233 = true then (
  some (.inr (.inr (500 + (50 * (k214 : Int)), 0))))
  else (
  if s1.Top ≤ (500 + (50 * (k214 : Int))) then (
  some (.inr (.inl ())))
  else (
  some (.inl ())))))

/-- fishplate/run.Saving -/
noncomputable def mRunSaving (s1 : ApiStock) (l5 : (List ApiPiece)) (x6 : Int) (x7 : Int) (x8 : Int) : Option (Int × Int) :=
  (mRunCheck_2 s1 l5 (⟨x6, 0, 0⟩ : ApiState) x7).bind fun x129 =>
  if x129 ≠ 0 then (
  some (0, x129))
  else (
  (mRunWithin x8 0 3600).bind fun x132 =>
  if x132 = true then (
  ((forM (mRunSaving_L190 l5 s1 x6 x7 x8) 111 0 ()).bind fun t => Sum.elim (fun _ =>
  some (.inl ())) (fun q => some q) t).bind fun t => Sum.elim (fun _ =>
  some (0, 9)) (fun r244 => some r244) t)
  else (
  some (0, 2)))

/-- fishplate/run.Capped -/
noncomputable def mRunCapped (s1 : ApiStock) (l5 : (List ApiPiece)) (x6 : Int) (x7 : Int) (x8 : Int) : Option (Int × (List ApiState)) :=
  (mRunCheck_2 s1 l5 (⟨x6, 0, 0⟩ : ApiState) x7).bind fun x33 =>
  if x33 ≠ 0 then (
  some (x33, []))
  else (
  (mRunWithin x8 500 6000).bind fun x36 =>
  if x36 = true then (
  (mRunStates s1 l5 x6 x7 (min s1.Top x8)).bind (unc2 fun x39 l40 =>
  some (x39, l40)))
  else (
  some (2, [])))

noncomputable def mFishkeep1RunSaved_L129 (l112 : (List ApiState)) (x107 : Int) (k151 : Nat) : (Unit) → Option ((Unit) ⊕ (Bool)) := fun _ =>
  (idx l112 (k151 : Int)).bind fun x155 =>
  if x107 < x155.Speed then (
  some (.inr false))
  else (
  some (.inl ()))

/-- fishplate/fishkeep1.RunSaved -/
noncomputable def mFishkeep1RunSaved (s1 : ApiStock) (l5 : (List ApiPiece)) (x6 : Int) (x7 : Int) (x8 : Int) : Option (Bool) :=
  (mFishkeep1AwakeRun).bind fun x104 =>
  if x104 = true then (
  (mRunSaving s1 l5 x6 x7 x8).bind (unc2 fun x107 x108 =>
  if x108 ≠ 0 then (
  some (decide (x107 = 0)))
  else (
  (mRunCapped s1 l5 x6 x7 x107).bind (unc2 fun x111 l112 =>
  (if x111 ≠ 0 then (
  some true)
  else (
  (chk ((l112.length : Int) - 1)).bind fun _ =>
  some (decide (x8 < ((l112.length : Int) - 1))))).bind (fun x124 =>
  if x124 = true then (
  some false)
  else (
  (forM (mFishkeep1RunSaved_L129 l112 x107) l112.length 0 ()).bind fun t => Sum.elim (fun _ =>
  if x107 = 500 then (
  some true)
  else (
  (chk (x107 - 50)).bind fun _ =>
  (mRunCapped s1 l5 x6 x7 (x107 - 50)).bind (unc2 fun x177 l178 =>
  (if x177 = 4 then (
  some true)
  else (
  if x177 = 0 then (
  (chk ((l178.length : Int) - 1)).bind fun _ =>
  some (decide (x8 < ((l178.length : Int) - 1))))
  else (
  some false))).bind (fun x191 =>
  some x191)))) (fun q => some q) t))))))
  else (
  some false)

end Go.Proofs.YtljcafilceachaaDoor
