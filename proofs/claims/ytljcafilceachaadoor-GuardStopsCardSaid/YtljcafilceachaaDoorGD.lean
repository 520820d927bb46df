/- The models of the functions, as the extractor printed them. -/
import Derived.Test.YtljcafilceachaaDoorXA
set_option linter.unusedVariables false
set_option linter.unusedSimpArgs false
namespace Go.Proofs.YtljcafilceachaaDoor
open Go.RowKit Go.Fp

structure ApiStock where
  Name : ByteArray
  Length : Int
  Mass : Int
  Start : Int
  Power : Int
  Roll : Int
  Drag : Int
  Brake : Int
  Top : Int
  Seats : Int
  deriving DecidableEq
def rApiStock : RT ApiStock := (RT.cat (RT.on RT.str ApiStock.Name) (RT.cat (RT.on (RT.int .i64) ApiStock.Length) (RT.cat (RT.on (RT.int .i64) ApiStock.Mass) (RT.cat (RT.on (RT.int .i64) ApiStock.Start) (RT.cat (RT.on (RT.int .i64) ApiStock.Power) (RT.cat (RT.on (RT.int .i64) ApiStock.Roll) (RT.cat (RT.on (RT.int .i64) ApiStock.Drag) (RT.cat (RT.on (RT.int .i64) ApiStock.Brake) (RT.cat (RT.on (RT.int .i64) ApiStock.Top) (RT.on (RT.int .i64) ApiStock.Seats))))))))))
structure ApiNeed where
  Kind : Int
  Place : Int
  Position : Int
  At : Int
  deriving DecidableEq
def rApiNeed : RT ApiNeed := (RT.cat (RT.on (RT.int .i64) ApiNeed.Kind) (RT.cat (RT.on (RT.int .i64) ApiNeed.Place) (RT.cat (RT.on (RT.int .i64) ApiNeed.Position) (RT.on (RT.int .i64) ApiNeed.At))))
structure ApiHold where
  Need : ApiNeed
  From : Int
  To : Int
  deriving DecidableEq
def rApiHold : RT ApiHold := (RT.cat (RT.on rApiNeed ApiHold.Need) (RT.cat (RT.on (RT.int .i64) ApiHold.From) (RT.on (RT.int .i64) ApiHold.To)))
structure ApiPiece where
  Length : Int
  Grade : Int
  Speed : Int
  deriving DecidableEq
def rApiPiece : RT ApiPiece := (RT.cat (RT.on (RT.int .i64) ApiPiece.Length) (RT.cat (RT.on (RT.int .i64) ApiPiece.Grade) (RT.on (RT.int .i64) ApiPiece.Speed)))
structure ApiState where
  At : Int
  Speed : Int
  Work : Int
  deriving DecidableEq
def rApiState : RT ApiState := (RT.cat (RT.on (RT.int .i64) ApiState.At) (RT.cat (RT.on (RT.int .i64) ApiState.Speed) (RT.on (RT.int .i64) ApiState.Work)))
structure GuardPacket where
  Kind : Int
  Session : Int
  No : Int
  Of : Int
  End : Int
  At : Int
  Speed : Int
  Sent : Int
  deriving DecidableEq
def rGuardPacket : RT GuardPacket := (RT.cat (RT.on (RT.int .i64) GuardPacket.Kind) (RT.cat (RT.on (RT.int .i64) GuardPacket.Session) (RT.cat (RT.on (RT.int .i64) GuardPacket.No) (RT.cat (RT.on (RT.int .i64) GuardPacket.Of) (RT.cat (RT.on (RT.int .i64) GuardPacket.End) (RT.cat (RT.on (RT.int .i64) GuardPacket.At) (RT.cat (RT.on (RT.int .i64) GuardPacket.Speed) (RT.on (RT.int .i64) GuardPacket.Sent))))))))
structure Fishkeep1Ride where
  Demand : Int
  Err : Int
  End : Int
  deriving DecidableEq
def rFishkeep1Ride : RT Fishkeep1Ride := (RT.cat (RT.on (RT.int .i64) Fishkeep1Ride.Demand) (RT.cat (RT.on (RT.int .i64) Fishkeep1Ride.Err) (RT.on (RT.int .i64) Fishkeep1Ride.End)))

/-- internal/stringslite.IndexByte -/
noncomputable def mStringsliteIndexByte (x1 : ByteArray) (x2 : Int) : Option (Int) :=
  some (sFirst x1 x2)

/-- internal/stringslite.Index -/
noncomputable def mStringsliteIndex (x1 : ByteArray) (x2 : ByteArray) : Option (Int) :=
  (if (x2.size : Int) = 0 then (
  some true)
  else (
  some (sEq x2 x1))).bind (fun x20 =>
  if x20 = true then (
  some 0)
  else (
  if (x2.size : Int) = 1 then (
  (sIdx x2 0).bind fun x25 =>
  (mStringsliteIndexByte x1 x25).bind fun x27 =>
  some x27)
  else (
  if (x1.size : Int) ≤ (x2.size : Int) then (
  some (-1))
  else (
  none))))

/-- strings.Index -/
noncomputable def mStringsIndex (x1 : ByteArray) (x2 : ByteArray) : Option (Int) :=
  (mStringsliteIndex x1 x2).bind fun x6 =>
  some x6

noncomputable def mStringsCount_L40 (x2 : ByteArray) : (ByteArray × Int) → Option ((ByteArray × Int) ⊕ (Int)) := unc2 fun x59 x60 =>
  (mStringsIndex x59 x2).bind fun x61 =>
  if x61 = (-1) then (
  some (.inr x60))
  else (
  (chk (x60 + 1)).bind fun _ =>
  (chk (x61 + (x2.size : Int))).bind fun _ =>
  (sCut x59 (x61 + (x2.size : Int)) (x59.size : Int)).bind fun q66 =>
  some (.inl (q66, x60 + 1)))

/-- strings.Count -/
noncomputable def mStringsCount (x1 : ByteArray) (x2 : ByteArray) : Option (Int) :=
  if (x2.size : Int) = 0 then (
  none)
  else (
  if (x2.size : Int) = 1 then (
  (sIdx x2 0).bind fun x38 =>
  some (sCount x1 x38))
  else (
  loopM (mStringsCount_L40 x2) (x1, 0)))

noncomputable def mStringsGenSplit_L419 (x1 : ByteArray) (x2 : ByteArray) (x3 : Int) (x291 : Int) : (ByteArray × Int × (List ByteArray)) → Option ((ByteArray × Int × (List ByteArray)) ⊕ (ByteArray × Int × (List ByteArray))) := unc3 fun x490 x491 l492 =>
  if x491 < ((min x291 ((x1.size : Int) + 1)) - 1) then (
  (mStringsIndex x490 x2).bind fun x495 =>
  if x495 < 0 then (
  some (.inr (x490, x491, l492)))
  else (
  (chk (x495 + x3)).bind fun _ =>
  (sCut x490 0 (x495 + x3)).bind fun q499 =>
  (idx l492 x491).bind fun _ =>
  (chk (x495 + (x2.size : Int))).bind fun _ =>
  (sCut x490 (x495 + (x2.size : Int)) (x490.size : Int)).bind fun q520 =>
  (chk (x491 + 1)).bind fun _ =>
  some (.inl (q520, x491 + 1, put l492 x491 q499))))
  else (
  some (.inr (x490, x491, l492)))

/-- strings.genSplit -/
noncomputable def mStringsGenSplit (x1 : ByteArray) (x2 : ByteArray) (x3 : Int) (x4 : Int) : Option ((List ByteArray)) :=
  if x4 = 0 then (
  some [])
  else (
  if (sEq x2 (ByteArray.mk #[])) = true then (
  none)
  else (
  (if x4 < 0 then (
  (mStringsCount x1 x2).bind fun x294 =>
  (chk (x294 + 1)).bind fun _ =>
  some (x294 + 1))
  else (
  some x4)).bind (fun x291 =>
  (chk ((x1.size : Int) + 1)).bind fun _ =>
  (mkLen 16 (min x291 ((x1.size : Int) + 1))).bind fun m298 =>
  (chk ((min x291 ((x1.size : Int) + 1)) - 1)).bind fun _ =>
  (loopM (mStringsGenSplit_L419 x1 x2 x3 x291) (x1, 0, List.replicate m298 (ByteArray.empty : ByteArray))).bind (unc3 fun x414 x415 l416 =>
  (idx l416 x415).bind fun _ =>
  (chk (x415 + 1)).bind fun _ =>
  (cutS (put l416 x415 x414) 0 (x415 + 1)).bind fun l542 =>
  some l542))))

/-- strings.Split -/
noncomputable def mStringsSplit (x1 : ByteArray) (x2 : ByteArray) : Option ((List ByteArray)) :=
  (mStringsGenSplit x1 x2 0 (-1)).bind fun l17 =>
  some l17

/-- strconv.Atoi -/
noncomputable def mStrconvAtoi (x1 : ByteArray) : Option (Int × Bool) :=
  atoiM x1

/-- fishplate/line.Number -/
noncomputable def mLineNumber (x1 : ByteArray) : Option (Int) :=
  (mStrconvAtoi x1).bind (unc2 fun x15 q16 =>
  (if q16 = true then (
  none)
  else (
  some ())).bind (fun _ =>
  some x15))

noncomputable def mLineNumbers_L45 (l4 : (List ByteArray)) (k61 : Nat) : (Unit) → Option ((Unit) ⊕ ((List Int) × Bool)) := fun _ =>
  (idx l4 (k61 : Int)).bind fun x65 =>
  (mLineNumber x65).bind fun _ =>
  some (.inr ([], false))

/-- fishplate/line.Numbers -/
noncomputable def mLineNumbers (l4 : (List ByteArray)) : Option ((List Int) × Bool) :=
  (forM (mLineNumbers_L45 l4) l4.length 0 ()).bind fun t => Sum.elim (fun _ =>
  some ([], true)) (fun q => some q) t

noncomputable def mRunName_L75 (x1 : ByteArray) (k96 : Nat) : (Unit) → Option ((Unit) ⊕ (Bool)) := fun _ =>
  (idx (sBytes x1) (k96 : Int)).bind fun x100 =>
  (if x100 < 97 then (
  some true)
  else (
  some (decide (122 < x100)))).bind (fun x113 =>
  if x113 = true then (
  some (.inr false))
  else (
  some (.inl ())))

/-- fishplate/run.name -/
noncomputable def mRunName (x1 : ByteArray) : Option (Bool) :=
  (chk (x1.size : Int)).bind fun _ =>
  (forM (mRunName_L75 x1) ((sBytes x1).length) 0 ()).bind fun t => Sum.elim (fun _ =>
  (if 1 ≤ (x1.size : Int) then (
  some (decide ((x1.size : Int) ≤ 12)))
  else (
  some false)).bind (fun x122 =>
  some x122)) (fun q => some q) t

/-- fishplate/run.numbers -/
noncomputable def mRunNumbers (s1 : ApiStock) : Option (Int × Int × Int × Int × Int × Int × Int × Int × Int) :=
  some (s1.Length, s1.Mass, s1.Start, s1.Power, s1.Roll, s1.Drag, s1.Brake, s1.Top, s1.Seats)

/-- fishplate/run.within -/
noncomputable def mRunWithin (x1 : Int) (x2 : Int) (x3 : Int) : Option (Bool) :=
  (if x2 ≤ x1 then (
  some (decide (x1 ≤ x3)))
  else (
  some false)).bind (fun x14 =>
  some x14)

noncomputable def mRunCheck_L226 (x214 : Int) (x215 : Int) (x216 : Int) (x217 : Int) (x218 : Int) (x219 : Int) (x220 : Int) (x221 : Int) (x222 : Int) (k319 : Nat) : (Unit) → Option ((Unit) ⊕ (Int)) := fun _ =>
  (idx [x214, x215, x216, x217, x218, x219, x220, x221, x222] (k319 : Int)).bind fun x323 =>
  (idx [[10, 400], [10, 2000], [60, 150], [10000, 2000000], [0, 10], [1000000, 100000000], [60, 150], [500, 6000], [0, 1000]] (k319 : Int)).bind fun x372 =>
  (idx x372 0).bind fun x381 =>
  (idx [[10, 400], [10, 2000], [60, 150], [10000, 2000000], [0, 10], [1000000, 100000000], [60, 150], [500, 6000], [0, 1000]] (k319 : Int)).bind fun x391 =>
  (idx x391 1).bind fun x400 =>
  (mRunWithin x323 x381 x400).bind fun x410 =>
  if x410 = true then (
  some (.inl ()))
  else (
  some (.inr 2))

/-- fishplate/run.Check -/
noncomputable def mRunCheck (s1 : ApiStock) : Option (Int) :=
  (mRunName s1.Name).bind fun x210 =>
  if x210 = true then (
  (mRunNumbers s1).bind (unc9 fun x214 x215 x216 x217 x218 x219 x220 x221 x222 =>
  (forM (mRunCheck_L226 x214 x215 x216 x217 x218 x219 x220 x221 x222) 9 0 ()).bind fun t => Sum.elim (fun _ =>
  some 0) (fun q => some q) t))
  else (
  some 1)

/-- fishplate/run.gone -/
noncomputable def mRunGone (x1 : Int) (x2 : Int) : Option (Int) :=
  (chk (x1 + x2)).bind fun _ =>
  (chk ((x1 + x2) + 1)).bind fun _ =>
  (ne0 2).bind fun _ =>
  (chk (Int.tdiv ((x1 + x2) + 1) 2)).bind fun _ =>
  some (Int.tdiv ((x1 + x2) + 1) 2)

noncomputable def mRunInto_2_L90 (s1 : ApiStock) (x3 : Int) : (Int × Int) → Option ((Int × Int) ⊕ (Int)) := unc2 fun x107 x108 =>
  if x3 < x107 then (
  (chk (s1.Brake - 40)).bind fun _ =>
  (chk (x107 - (s1.Brake - 40))).bind fun _ =>
  (mRunGone x107 (max x3 (x107 - (s1.Brake - 40)))).bind fun x112 =>
  (chk (x108 + x112)).bind fun _ =>
  some (.inl (max x3 (x107 - (s1.Brake - 40)), x108 + x112)))
  else (
  some (.inr x108))

/-- fishplate/run.into -/
noncomputable def mRunInto_2 (s1 : ApiStock) (x2 : Int) (x3 : Int) : Option (Int) :=
  (loopM (mRunInto_2_L90 s1 x3) (x2, 0)).bind (fun x88 =>
  some x88)

/-- fishplate/run.Into -/
noncomputable def mRunInto (s1 : ApiStock) (x2 : Int) (x3 : Int) : Option (Int × Int) :=
  (mRunCheck s1).bind fun x28 =>
  if x28 ≠ 0 then (
  some (0, x28))
  else (
  ((mRunWithin x2 0 6000).bind fun x40 =>
  if x40 = true then (
  (mRunWithin x3 0 6000).bind fun x43 =>
  some (!x43))
  else (
  some true)).bind (fun x38 =>
  if x38 = true then (
  some (0, 2))
  else (
  (mRunInto_2 s1 x2 x3).bind fun x46 =>
  some (x46, 0))))

/-- fishplate/run.Stop -/
noncomputable def mRunStop (s1 : ApiStock) (x2 : Int) : Option (Int × Int) :=
  (mRunInto s1 x2 0).bind (unc2 fun x10 x11 =>
  some (x10, x11))

noncomputable def mRunCheck_2_L161 (l5 : (List ApiPiece)) (k233 : Nat) : (Int) → Option ((Int) ⊕ (Int)) := fun x232 =>
  (idx l5 (k233 : Int)).bind fun x237 =>
  ((mRunWithin x237.Length 1 300000).bind fun x260 =>
  if x260 = true then (
  (mRunWithin x237.Grade (-40) 40).bind fun x263 =>
  if x263 = true then (
  (mRunWithin x237.Speed 1 6000).bind fun x266 =>
  some (!x266))
  else (
  some true))
  else (
  some true)).bind (fun x258 =>
  if x258 = true then (
  some (.inr 2))
  else (
  (chk (x232 + x237.Length)).bind fun _ =>
  some (.inl (x232 + x237.Length))))

/-- fishplate/run.check -/
noncomputable def mRunCheck_2 (s1 : ApiStock) (l5 : (List ApiPiece)) (s6 : ApiState) (x7 : Int) : Option (Int) :=
  (mRunCheck s1).bind fun x156 =>
  if x156 ≠ 0 then (
  some x156)
  else (
  if (l5.length : Int) = 0 then (
  some 1)
  else (
  if 60 < (l5.length : Int) then (
  some 4)
  else (
  (forM (mRunCheck_2_L161 l5) l5.length 0 0).bind fun t => Sum.elim (fun x232 =>
  ((mRunWithin x7 0 x232).bind fun x287 =>
  if x287 = true then (
  (mRunWithin s6.At 0 x7).bind fun x290 =>
  if x290 = true then (
  (mRunWithin s6.Speed 0 s1.Top).bind fun x293 =>
  if x293 = true then (
  (mRunWithin s6.Work 0 1152921504606846976).bind fun x296 =>
  some (!x296))
  else (
  some true))
  else (
  some true))
  else (
  some true)).bind (fun x285 =>
  if x285 = true then (
  some 2)
  else (
  some 0))) (fun q => some q) t)))

noncomputable def mRunNewRunner_L240 (l5 : (List ApiPiece)) (k372 : Nat) : ((List Int)) → Option ((List Int)) := fun l371 =>
  (idx l5 (k372 : Int)).bind fun x375 =>
  (idx l371 (k372 : Int)).bind fun x409 =>
  (chk (x409 + x375.Length)).bind fun _ =>
  (room 8 (l371.length + 1)).bind fun _ =>
  some (l371 ++ [x409 + x375.Length])

/-- fishplate/run.newRunner -/
noncomputable def mRunNewRunner (s1 : ApiStock) (l5 : (List ApiPiece)) (x6 : Int) (x7 : Int) : Option (ByteArray × Int × Int × Int × Int × Int × Int × Int × Int × Int × (List ApiPiece) × Int × Int × (List Int) × (List (Int × (List Int)))) :=
  (forS (mRunNewRunner_L240 l5) l5.length 0 [0]).bind (fun l371 =>
  some (s1.Name, s1.Length, s1.Mass, s1.Start, s1.Power, s1.Roll, s1.Drag, s1.Brake, s1.Top, s1.Seats, l5, x6, x7, l371, ([] : (List (Int × (List Int))))))

noncomputable def mRunRunnerGrade_L460 (l25 : (List ApiPiece)) (l28 : (List Int)) (x11 : Int) : (Int) → Option ((Int) ⊕ (Int)) := fun x552 =>
  ((chk (x552 + 1)).bind fun _ =>
  if (x552 + 1) < (l25.length : Int) then (
  (chk (x552 + 1)).bind fun _ =>
  (idx l28 (x552 + 1)).bind fun x579 =>
  some (decide (x579 ≤ x11)))
  else (
  some false)).bind (fun x574 =>
  if x574 = true then (
  (chk (x552 + 1)).bind fun _ =>
  some (.inl (x552 + 1)))
  else (
  some (.inr x552)))

/-- (*fishplate/run.runner).grade -/
noncomputable def mRunRunnerGrade (x11 : Int) (_x12 : ByteArray) (_x13 : Int) (_x14 : Int) (_x15 : Int) (_x16 : Int) (_x17 : Int) (_x18 : Int) (_x19 : Int) (_x20 : Int) (_x21 : Int) (l25 : (List ApiPiece)) (_x26 : Int) (_x27 : Int) (l28 : (List Int)) (_l29 : (List (Int × (List Int)))) : Option (Int) :=
  (loopM (mRunRunnerGrade_L460 l25 l28 x11) 0).bind (fun x458 =>
  (idx l25 x458).bind fun x597 =>
  some x597.Grade)

/-- fishplate/run.pull -/
noncomputable def mRunPull (s1 : ApiStock) (x2 : Int) : Option (Int) :=
  if x2 = 0 then (
  some s1.Start)
  else (
  (ne0 x2).bind fun _ =>
  (chk (Int.tdiv s1.Power x2)).bind fun _ =>
  some (min s1.Start (Int.tdiv s1.Power x2)))

/-- fishplate/run.gain -/
noncomputable def mRunGain (s1 : ApiStock) (x2 : Int) (x3 : Int) : Option (Int) :=
  (mRunPull s1 x2).bind fun x31 =>
  (chk (x31 - s1.Roll)).bind fun _ =>
  (chk (x2 * x2)).bind fun _ =>
  (ne0 s1.Drag).bind fun _ =>
  (chk (Int.tdiv (x2 * x2) s1.Drag)).bind fun _ =>
  (chk ((x31 - s1.Roll) - (Int.tdiv (x2 * x2) s1.Drag))).bind fun _ =>
  (chk (((x31 - s1.Roll) - (Int.tdiv (x2 * x2) s1.Drag)) - x3)).bind fun _ =>
  some (((x31 - s1.Roll) - (Int.tdiv (x2 * x2) s1.Drag)) - x3)

noncomputable def mRunRunnerInto_L988 (x11 : Int) (x12 : Int) (x20 : Int) : (Int × (List Int)) → Option ((Int × (List Int)) ⊕ ((List Int))) := unc2 fun x1191 l1192 =>
  if x1191 ≤ x11 then (
  (if x12 < x1191 then (
  (chk (x20 - 40)).bind fun _ =>
  (chk (x1191 - (x20 - 40))).bind fun _ =>
  (mRunGone x1191 (max x12 (x1191 - (x20 - 40)))).bind fun x1261 =>
  (idx l1192 (max x12 (x1191 - (x20 - 40)))).bind fun x1263 =>
  (chk (x1261 + x1263)).bind fun _ =>
  some (x1261 + x1263))
  else (
  some 0)).bind (fun x1237 =>
  (room 8 (l1192.length + 1)).bind fun _ =>
  (chk (x1191 + 1)).bind fun _ =>
  some (.inl (x1191 + 1, l1192 ++ [x1237]))))
  else (
  some (.inr l1192))

/-- (*fishplate/run.runner).into -/
noncomputable def mRunRunnerInto (x11 : Int) (x12 : Int) (_x13 : ByteArray) (_x14 : Int) (_x15 : Int) (_x16 : Int) (_x17 : Int) (_x18 : Int) (_x19 : Int) (x20 : Int) (_x21 : Int) (_x22 : Int) (_l26 : (List ApiPiece)) (_x27 : Int) (_x28 : Int) (_l29 : (List Int)) (l30 : (List (Int × (List Int)))) : Option (Int × (List (Int × (List Int)))) :=
  if x11 ≤ x12 then (
  some (0, l30))
  else (
  (loopM (mRunRunnerInto_L988 x11 x12 x20) ((((mgetD l30 x12 []).length : Int), mgetD l30 x12 []) : Int × (List Int))).bind (fun l986 =>
  (idx l986 x11).bind fun x1290 =>
  some (x1290, mput l30 x12 l986)))

noncomputable def mRunRunnerMay_L373 (l27 : (List ApiPiece)) (l30 : (List Int)) (x11 : Int) (x12 : Int) (x13 : Int) (x14 : ByteArray) (x15 : Int) (x16 : Int) (x17 : Int) (x18 : Int) (x19 : Int) (x20 : Int) (x21 : Int) (x22 : Int) (x23 : Int) (x28 : Int) (x29 : Int) (k541 : Nat) : ((List (Int × (List Int)))) → Option (((List (Int × (List Int)))) ⊕ (Bool × (List (Int × (List Int))))) := fun l540 =>
  (idx l27 (k541 : Int)).bind fun x545 =>
  (idx l30 (k541 : Int)).bind fun x556 =>
  if x12 ≤ x556 then (
  (mRunRunnerInto x13 x545.Speed x14 x15 x16 x17 x18 x19 x20 x21 x22 x23 l27 x28 x29 l30 l540).bind (unc2 fun x573 l574 =>
  (chk (x556 - x12)).bind fun _ =>
  if (x556 - x12) < x573 then (
  some (.inr (false, l574)))
  else (
  some (.inl l574))))
  else (
  ((chk ((k541 : Int) + 1)).bind fun _ =>
  (idx l30 ((k541 : Int) + 1)).bind fun x606 =>
  if x11 < x606 then (
  some (decide (x545.Speed < x13)))
  else (
  some false)).bind (fun x603 =>
  if x603 = true then (
  some (.inr (false, l540)))
  else (
  some (.inl l540))))

/-- (*fishplate/run.runner).may -/
noncomputable def mRunRunnerMay (x11 : Int) (x12 : Int) (x13 : Int) (x14 : ByteArray) (x15 : Int) (x16 : Int) (x17 : Int) (x18 : Int) (x19 : Int) (x20 : Int) (x21 : Int) (x22 : Int) (x23 : Int) (l27 : (List ApiPiece)) (x28 : Int) (x29 : Int) (l30 : (List Int)) (l31 : (List (Int × (List Int)))) : Option (Bool × (List (Int × (List Int)))) :=
  ((mRunRunnerInto x13 0 x14 x15 x16 x17 x18 x19 x20 x21 x22 x23 l27 x28 x29 l30 l31).bind (unc2 fun x364 l365 =>
  (chk (x28 - x12)).bind fun _ =>
  some (decide ((x28 - x12) < x364), l365))).bind (unc2 fun x353 l354 =>
  if x353 = true then (
  some (false, l354))
  else (
  (forM (mRunRunnerMay_L373 l27 l30 x11 x12 x13 x14 x15 x16 x17 x18 x19 x20 x21 x22 x23 x28 x29) l27.length 0 l354).bind fun t => Sum.elim (fun l540 =>
  some (true, l540)) (fun q => some q) t))

noncomputable def mRunRunnerSecond_L835 (l25 : (List ApiPiece)) (l28 : (List Int)) (s11 : ApiState) (x12 : ByteArray) (x13 : Int) (x14 : Int) (x15 : Int) (x16 : Int) (x17 : Int) (x18 : Int) (x19 : Int) (x20 : Int) (x21 : Int) (x26 : Int) (x27 : Int) (x592 : Int) : (Int × (List (Int × (List Int)))) → Option ((Int × (List (Int × (List Int)))) ⊕ (Int × (List (Int × (List Int))))) := unc2 fun x982 l983 =>
  (if (max 0 (s11.Speed - (x19 + x592))) ≤ x982 then (
  (chk (100 * x13)).bind fun _ =>
  (chk (s11.At - (100 * x13))).bind fun _ =>
  (mRunGone s11.Speed x982).bind fun x1038 =>
  (chk (s11.At + x1038)).bind fun _ =>
  (mRunRunnerMay (s11.At - (100 * x13)) (s11.At + x1038) x982 x12 x13 x14 x15 x16 x17 x18 x19 x20 x21 l25 x26 x27 l28 l983).bind (unc2 fun x1041 l1042 =>
  some (!x1041, l1042)))
  else (
  some (false, l983))).bind (unc2 fun x1018 l1019 =>
  if x1018 = true then (
  (chk (x982 - 1)).bind fun _ =>
  some (.inl (x982 - 1, l1019)))
  else (
  some (.inr (x982, l1019))))

/-- (*fishplate/run.runner).second -/
noncomputable def mRunRunnerSecond (s11 : ApiState) (x12 : ByteArray) (x13 : Int) (x14 : Int) (x15 : Int) (x16 : Int) (x17 : Int) (x18 : Int) (x19 : Int) (x20 : Int) (x21 : Int) (l25 : (List ApiPiece)) (x26 : Int) (x27 : Int) (l28 : (List Int)) (l29 : (List (Int × (List Int)))) : Option (Int × Int × Int × (List (Int × (List Int)))) :=
  ((mRunRunnerGrade s11.At x12 x13 x14 x15 x16 x17 x18 x19 x20 x21 l25 x26 x27 l28 l29).bind fun x598 =>
  some x598).bind (fun x592 =>
  (chk (x19 + x592)).bind fun _ =>
  (chk (s11.Speed - (x19 + x592))).bind fun _ =>
  (mRunGain (⟨x12, x13, x14, x15, x16, x17, x18, x19, x20, x21⟩ : ApiStock) s11.Speed x592).bind fun x607 =>
  (chk (s11.Speed + x607)).bind fun _ =>
  (loopM (mRunRunnerSecond_L835 l25 l28 s11 x12 x13 x14 x15 x16 x17 x18 x19 x20 x21 x26 x27 x592) (min (s11.Speed + x607) x27, l29)).bind (unc2 fun x832 l833 =>
  ((mRunGone s11.Speed (max x832 (max 0 (s11.Speed - (x19 + x592))))).bind fun x1068 =>
  (chk (s11.At + x1068)).bind fun _ =>
  some (s11.At + x1068)).bind (fun x1062 =>
  ((chk ((max x832 (max 0 (s11.Speed - (x19 + x592)))) - s11.Speed)).bind fun _ =>
  (chk (((max x832 (max 0 (s11.Speed - (x19 + x592)))) - s11.Speed) + x17)).bind fun _ =>
  (chk (s11.Speed * s11.Speed)).bind fun _ =>
  (ne0 x18).bind fun _ =>
  (chk (Int.tdiv (s11.Speed * s11.Speed) x18)).bind fun _ =>
  (chk ((((max x832 (max 0 (s11.Speed - (x19 + x592)))) - s11.Speed) + x17) + (Int.tdiv (s11.Speed * s11.Speed) x18))).bind fun _ =>
  (chk (((((max x832 (max 0 (s11.Speed - (x19 + x592)))) - s11.Speed) + x17) + (Int.tdiv (s11.Speed * s11.Speed) x18)) + x592)).bind fun _ =>
  if 0 < (((((max x832 (max 0 (s11.Speed - (x19 + x592)))) - s11.Speed) + x17) + (Int.tdiv (s11.Speed * s11.Speed) x18)) + x592) then (
  (chk (x14 * (((((max x832 (max 0 (s11.Speed - (x19 + x592)))) - s11.Speed) + x17) + (Int.tdiv (s11.Speed * s11.Speed) x18)) + x592))).bind fun _ =>
  (chk (x1062 - s11.At)).bind fun _ =>
  (chk ((x14 * (((((max x832 (max 0 (s11.Speed - (x19 + x592)))) - s11.Speed) + x17) + (Int.tdiv (s11.Speed * s11.Speed) x18)) + x592)) * (x1062 - s11.At))).bind fun _ =>
  (chk (s11.Work + ((x14 * (((((max x832 (max 0 (s11.Speed - (x19 + x592)))) - s11.Speed) + x17) + (Int.tdiv (s11.Speed * s11.Speed) x18)) + x592)) * (x1062 - s11.At)))).bind fun _ =>
  some (s11.Work + ((x14 * (((((max x832 (max 0 (s11.Speed - (x19 + x592)))) - s11.Speed) + x17) + (Int.tdiv (s11.Speed * s11.Speed) x18)) + x592)) * (x1062 - s11.At))))
  else (
  some s11.Work)).bind (fun x1097 =>
  some (x1062, max x832 (max 0 (s11.Speed - (x19 + x592))), x1097, l833)))))

/-- fishplate/run.Gain -/
noncomputable def mRunGain_2 (s1 : ApiStock) (x2 : Int) (x3 : Int) : Option (Int × Int) :=
  (mRunCheck s1).bind fun x28 =>
  if x28 ≠ 0 then (
  some (0, x28))
  else (
  ((mRunWithin x2 0 6000).bind fun x40 =>
  if x40 = true then (
  (mRunWithin x3 (-40) 40).bind fun x43 =>
  some (!x43))
  else (
  some true)).bind (fun x38 =>
  if x38 = true then (
  some (0, 2))
  else (
  (mRunGain s1 x2 x3).bind fun x46 =>
  some (x46, 0))))

/-- fishplate/guard.within -/
noncomputable def mGuardWithin (x1 : Int) (x2 : Int) (x3 : Int) : Option (Bool) :=
  (if x2 ≤ x1 then (
  some (decide (x1 ≤ x3)))
  else (
  some false)).bind (fun x14 =>
  some x14)

/-- (fishplate/guard.Packet).used -/
noncomputable def mGuardPacketUsed (s1 : GuardPacket) : Option (Int × Int × Int × Int × Int × Int × Int × Int) :=
  (if s1.Kind = 1 then (
  some (0, 0, s1.At, 0))
  else (
  if s1.Kind = 3 then (
  some (0, s1.End, s1.At, s1.Speed))
  else (
  (if s1.Kind = 4 then (
  some (decide (s1.Kind = 4)))
  else (
  some (decide (s1.Kind = 5)))).bind (fun x68 =>
  if x68 = true then (
  some (0, s1.End, 0, 0))
  else (
  if s1.Kind = 7 then (
  some (s1.Of, s1.End, 0, 0))
  else (
  if s1.Kind = 8 then (
  some (s1.Of, 0, 0, 0))
  else (
  some (0, 0, 0, 0)))))))).bind (unc4 fun x58 x59 x60 x61 =>
  some (s1.Kind, s1.Session, s1.No, x58, x59, x60, x61, s1.Sent))

/-- (fishplate/guard.Packet).check -/
noncomputable def mGuardPacketCheck (s1 : GuardPacket) : Option (Int) :=
  (mGuardWithin s1.Kind 1 8).bind fun x110 =>
  if x110 = true then (
  ((mGuardWithin s1.Session 1 1000000).bind fun x137 =>
  if x137 = true then (
  (mGuardWithin s1.No 1 1000000).bind fun x140 =>
  if x140 = true then (
  (mGuardWithin s1.Of 0 1000000).bind fun x143 =>
  if x143 = true then (
  (mGuardWithin s1.End 0 20000000).bind fun x146 =>
  if x146 = true then (
  (mGuardWithin s1.At 0 20000000).bind fun x149 =>
  if x149 = true then (
  (mGuardWithin s1.Speed 0 6000).bind fun x152 =>
  if x152 = true then (
  (mGuardWithin s1.Sent 0 28800).bind fun x155 =>
  some (!x155))
  else (
  some true))
  else (
  some true))
  else (
  some true))
  else (
  some true))
  else (
  some true))
  else (
  some true)).bind (fun x135 =>
  if x135 = true then (
  some 2)
  else (
  ((mGuardPacketUsed s1).bind (unc8 fun x201 x202 x203 x204 x205 x206 x207 x208 =>
  if s1.Kind = x201 ∧ s1.Session = x202 ∧ s1.No = x203 ∧ s1.Of = x204 ∧ s1.End = x205 ∧ s1.At = x206 ∧ s1.Speed = x207 ∧ s1.Sent = x208 then (
  if s1.Of = 0 then (
  some (decide (7 ≤ s1.Kind)))
  else (
  some false))
  else (
  some true))).bind (fun x186 =>
  if x186 = true then (
  some 1)
  else (
  some 0)))))
  else (
  some 15)

/-- fishplate/guard.Unpack -/
noncomputable def mGuardUnpack (x1 : ByteArray) : Option (Int × Int × Int × Int × Int × Int × Int × Int × Int) :=
  (mStringsSplit x1 (ByteArray.mk #[32])).bind fun l380 =>
  (mLineNumbers l380).bind (unc2 fun l392 x393 =>
  (if x393 = true then (
  some (decide ((l392.length : Int) ≠ 8)))
  else (
  some true)).bind (fun x404 =>
  if x404 = true then (
  some (0, 0, 0, 0, 0, 0, 0, 0, 10))
  else (
  ((idx l392 0).bind fun x663 =>
  (idx l392 1).bind fun x673 =>
  (idx l392 2).bind fun x683 =>
  (idx l392 3).bind fun x693 =>
  (idx l392 4).bind fun x703 =>
  (idx l392 5).bind fun x713 =>
  (idx l392 6).bind fun x723 =>
  (idx l392 7).bind fun x733 =>
  some (x663, x673, x683, x693, x703, x713, x723, x733)).bind (unc8 fun x573 x574 x575 x576 x577 x578 x579 x580 =>
  (mGuardPacketCheck (⟨x573, x574, x575, x576, x577, x578, x579, x580⟩ : GuardPacket)).bind fun x744 =>
  if x744 ≠ 0 then (
  some (0, 0, 0, 0, 0, 0, 0, 0, x744))
  else (
  some (x573, x574, x575, x576, x577, x578, x579, x580, 0))))))

/-- fishplate/fishkeep1.awakeGuard -/
noncomputable def mFishkeep1AwakeGuard : Option (Bool) :=
  (mGuardUnpack (ByteArray.mk #[])).bind (unc9 fun _ _ _ _ _ _ _ _ x23 =>
  some (decide (x23 ≠ 0)))

/-- fishplate/run.Second -/
noncomputable def mRunSecond (s1 : ApiStock) (l5 : (List ApiPiece)) (s6 : ApiState) (x7 : Int) : Option (Int × Int × Int × Int) :=
  (mRunCheck_2 s1 l5 s6 x7).bind fun x183 =>
  if x183 ≠ 0 then (
  some (0, 0, 0, x183))
  else (
  ((mRunNewRunner s1 l5 x7 s1.Top).bind (unc15 fun x309 x310 x311 x312 x313 x314 x315 x316 x317 x318 l319 x320 x321 l322 l323 =>
  (mRunRunnerSecond s6 x309 x310 x311 x312 x313 x314 x315 x316 x317 x318 l319 x320 x321 l322 l323).bind (unc4 fun x338 x339 x340 _ =>
  some (x338, x339, x340)))).bind (unc3 fun x266 x267 x268 =>
  some (x266, x267, x268, 0)))

noncomputable def mGuardRuleInto_L674 (x6 : Int) (x7 : Int) (x15 : Int) : (Int × (List Int)) → Option ((Int × (List Int)) ⊕ ((List Int))) := unc2 fun x809 l810 =>
  if x809 ≤ x6 then (
  (if x7 < x809 then (
  (chk (x15 - 40)).bind fun _ =>
  (chk (x809 - (x15 - 40))).bind fun _ =>
  (chk (x809 + (max x7 (x809 - (x15 - 40))))).bind fun _ =>
  (chk ((x809 + (max x7 (x809 - (x15 - 40)))) + 1)).bind fun _ =>
  (ne0 2).bind fun _ =>
  (chk (Int.tdiv ((x809 + (max x7 (x809 - (x15 - 40)))) + 1) 2)).bind fun _ =>
  (idx l810 (max x7 (x809 - (x15 - 40)))).bind fun x847 =>
  (chk ((Int.tdiv ((x809 + (max x7 (x809 - (x15 - 40)))) + 1) 2) + x847)).bind fun _ =>
  some ((Int.tdiv ((x809 + (max x7 (x809 - (x15 - 40)))) + 1) 2) + x847))
  else (
  some 0)).bind (fun x838 =>
  (room 8 (l810.length + 1)).bind fun _ =>
  (chk (x809 + 1)).bind fun _ =>
  some (.inl (x809 + 1, l810 ++ [x838]))))
  else (
  some (.inr l810))

/-- (*fishplate/guard.rule).into -/
noncomputable def mGuardRuleInto (x6 : Int) (x7 : Int) (_x8 : ByteArray) (_x9 : Int) (_x10 : Int) (_x11 : Int) (_x12 : Int) (_x13 : Int) (_x14 : Int) (x15 : Int) (_x16 : Int) (_x17 : Int) (_l21 : (List ApiPiece)) (l22 : (List (Int × (List Int)))) : Option (Int × (List (Int × (List Int)))) :=
  if x6 ≤ x7 then (
  some (0, l22))
  else (
  (loopM (mGuardRuleInto_L674 x6 x7 x15) ((((mgetD l22 x7 []).length : Int), mgetD l22 x7 []) : Int × (List Int))).bind (fun l672 =>
  (idx l672 x6).bind fun x874 =>
  some (x874, mput l22 x7 l672)))

noncomputable def mGuardRuleMay_L324 (x6 : Int) (x7 : Int) (x9 : Int) (l23 : (List ApiPiece)) (x10 : ByteArray) (x11 : Int) (x12 : Int) (x13 : Int) (x14 : Int) (x15 : Int) (x16 : Int) (x17 : Int) (x18 : Int) (x19 : Int) (k506 : Nat) : (Int × (List (Int × (List Int)))) → Option ((Int × (List (Int × (List Int)))) ⊕ (Bool × (List (Int × (List Int))))) := unc2 fun x504 l505 =>
  (idx l23 (k506 : Int)).bind fun x510 =>
  (if x7 ≤ x504 then (
  (mGuardRuleInto x9 x510.Speed x10 x11 x12 x13 x14 x15 x16 x17 x18 x19 l23 l505).bind (unc2 fun x561 l562 =>
  (chk (x504 - x7)).bind fun _ =>
  if (x504 - x7) < x561 then (
  some (.inr (.inr (false, l562))))
  else (
  some (.inl l562))))
  else (
  ((chk (x504 + x510.Length)).bind fun _ =>
  (chk (100 * x11)).bind fun _ =>
  (chk (x6 - (100 * x11))).bind fun _ =>
  if (x6 - (100 * x11)) < (x504 + x510.Length) then (
  some (decide (x510.Speed < x9)))
  else (
  some false)).bind (fun x582 =>
  if x582 = true then (
  some (.inr (.inr (false, l505))))
  else (
  some (.inl l505))))).bind fun t => Sum.elim (fun l557 =>
  (chk (x504 + x510.Length)).bind fun _ =>
  some (.inl (x504 + x510.Length, l557))) (fun r597 => some r597) t

/-- (*fishplate/guard.rule).may -/
noncomputable def mGuardRuleMay (x6 : Int) (x7 : Int) (x8 : Int) (x9 : Int) (x10 : ByteArray) (x11 : Int) (x12 : Int) (x13 : Int) (x14 : Int) (x15 : Int) (x16 : Int) (x17 : Int) (x18 : Int) (x19 : Int) (l23 : (List ApiPiece)) (l24 : (List (Int × (List Int)))) : Option (Bool × (List (Int × (List Int)))) :=
  (mGuardRuleInto x9 0 x10 x11 x12 x13 x14 x15 x16 x17 x18 x19 l23 l24).bind (unc2 fun x315 l316 =>
  (chk (x8 - x7)).bind fun _ =>
  if (x8 - x7) < x315 then (
  some (false, l316))
  else (
  (forM (mGuardRuleMay_L324 x6 x7 x9 l23 x10 x11 x12 x13 x14 x15 x16 x17 x18 x19) l23.length 0 (0, l316)).bind fun t => Sum.elim (unc2 fun _ l505 =>
  some (true, l505)) (fun q => some q) t))

noncomputable def mGuardPermit_L592 (l5 : (List ApiPiece)) (s1 : ApiStock) (x6 : Int) (x7 : Int) (x8 : Int) (x9 : Int) : (Int × (List (Int × (List Int)))) → Option ((Int × (List (Int × (List Int)))) ⊕ (Int)) := unc2 fun x683 l684 =>
  (if 0 ≤ x683 then (
  (chk (x9 + x683)).bind fun _ =>
  (chk ((x9 + x683) + 1)).bind fun _ =>
  (ne0 2).bind fun _ =>
  (chk (Int.tdiv ((x9 + x683) + 1) 2)).bind fun _ =>
  (chk (x7 + (Int.tdiv ((x9 + x683) + 1) 2))).bind fun _ =>
  (mGuardRuleMay x6 (x7 + (Int.tdiv ((x9 + x683) + 1) 2)) x8 x683 s1.Name s1.Length s1.Mass s1.Start s1.Power s1.Roll s1.Drag s1.Brake s1.Top s1.Seats l5 l684).bind (unc2 fun x714 l715 =>
  some (!x714, l715)))
  else (
  some (false, l684))).bind (unc2 fun x705 l706 =>
  if x705 = true then (
  (chk (x683 - 1)).bind fun _ =>
  some (.inl (x683 - 1, l706)))
  else (
  some (.inr x683)))

noncomputable def mGuardPermit_L378 (l5 : (List ApiPiece)) (k408 : Nat) : (Int) → Option (Int) := fun x407 =>
  (idx l5 (k408 : Int)).bind fun x411 =>
  (chk (x407 + x411.Length)).bind fun _ =>
  some (x407 + x411.Length)

/-- fishplate/guard.Permit -/
noncomputable def mGuardPermit (s1 : ApiStock) (l5 : (List ApiPiece)) (x6 : Int) (x7 : Int) (x8 : Int) (x9 : Int) : Option (Int × Int) :=
  (mRunSecond s1 l5 (⟨0, 0, 0⟩ : ApiState) 0).bind (unc4 fun _ _ _ x372 =>
  if x372 ≠ 0 then (
  some (0, x372))
  else (
  (forS (mGuardPermit_L378 l5) l5.length 0 0).bind (fun x407 =>
  ((mGuardWithin x6 0 x407).bind fun x439 =>
  if x439 = true then (
  (mGuardWithin x7 0 x407).bind fun x442 =>
  if x442 = true then (
  if x7 < x6 then (
  some true)
  else (
  (mGuardWithin x8 0 x407).bind fun x446 =>
  if x446 = true then (
  (mGuardWithin x9 0 s1.Top).bind fun x449 =>
  some (!x449))
  else (
  some true)))
  else (
  some true))
  else (
  some true)).bind (fun x437 =>
  if x437 = true then (
  some (0, 2))
  else (
  (loopM (mGuardPermit_L592 l5 s1 x6 x7 x8 x9) ((s1.Top, ([] : (List (Int × (List Int))))) : Int × (List (Int × (List Int))))).bind (fun x590 =>
  some (x590, 0)))))))

noncomputable def mGuardNext_L190 (l5 : (List ApiPiece)) (s6 : ApiState) (k234 : Nat) : (Int × Int) → Option (Int × Int) := unc2 fun x232 x233 =>
  (idx l5 (k234 : Int)).bind fun x237 =>
  (if x233 ≤ s6.At then (
  some x237.Grade)
  else (
  some x232)).bind (fun x251 =>
  (chk (x233 + x237.Length)).bind fun _ =>
  some (x251, x233 + x237.Length))

/-- fishplate/guard.Next -/
noncomputable def mGuardNext (s1 : ApiStock) (l5 : (List ApiPiece)) (s6 : ApiState) (x7 : Int) (x8 : Int) (x9 : Int) (x10 : Int) : Option (Int × Int × Int × Int) :=
  (mGuardPermit s1 l5 x7 x8 x9 s6.Speed).bind (unc2 fun x165 x166 =>
  if x166 ≠ 0 then (
  some (0, 0, 0, x166))
  else (
  ((mGuardWithin s6.At x7 x8).bind fun x181 =>
  if x181 = true then (
  (mGuardWithin s6.Work 0 1152921504606846976).bind fun x184 =>
  if x184 = true then (
  (mGuardWithin x10 0 6000).bind fun x187 =>
  some (!x187))
  else (
  some true))
  else (
  some true)).bind (fun x179 =>
  if x179 = true then (
  some (0, 0, 0, 2))
  else (
  (forS (mGuardNext_L190 l5 s6) l5.length 0 (0, 0)).bind (unc2 fun x232 _ =>
  (mRunGain_2 s1 s6.Speed x232).bind (unc2 fun x255 _ =>
  (chk (s6.Speed + x255)).bind fun _ =>
  (chk (s1.Brake + x232)).bind fun _ =>
  (chk (s6.Speed - (s1.Brake + x232))).bind fun _ =>
  (chk (s6.Speed + (max (min (min (min x10 x165) (s6.Speed + x255)) s1.Top) (max 0 (s6.Speed - (s1.Brake + x232)))))).bind fun _ =>
  (chk ((s6.Speed + (max (min (min (min x10 x165) (s6.Speed + x255)) s1.Top) (max 0 (s6.Speed - (s1.Brake + x232))))) + 1)).bind fun _ =>
  (ne0 2).bind fun _ =>
  (chk (Int.tdiv ((s6.Speed + (max (min (min (min x10 x165) (s6.Speed + x255)) s1.Top) (max 0 (s6.Speed - (s1.Brake + x232))))) + 1) 2)).bind fun _ =>
  (chk (s6.At + (Int.tdiv ((s6.Speed + (max (min (min (min x10 x165) (s6.Speed + x255)) s1.Top) (max 0 (s6.Speed - (s1.Brake + x232))))) + 1) 2))).bind fun _ =>
  ((chk ((max (min (min (min x10 x165) (s6.Speed + x255)) s1.Top) (max 0 (s6.Speed - (s1.Brake + x232)))) - s6.Speed)).bind fun _ =>
  (chk (((max (min (min (min x10 x165) (s6.Speed + x255)) s1.Top) (max 0 (s6.Speed - (s1.Brake + x232)))) - s6.Speed) + s1.Roll)).bind fun _ =>
  (chk (s6.Speed * s6.Speed)).bind fun _ =>
  (ne0 s1.Drag).bind fun _ =>
  (chk (Int.tdiv (s6.Speed * s6.Speed) s1.Drag)).bind fun _ =>
  (chk ((((max (min (min (min x10 x165) (s6.Speed + x255)) s1.Top) (max 0 (s6.Speed - (s1.Brake + x232)))) - s6.Speed) + s1.Roll) + (Int.tdiv (s6.Speed * s6.Speed) s1.Drag))).bind fun _ =>
  (chk (((((max (min (min (min x10 x165) (s6.Speed + x255)) s1.Top) (max 0 (s6.Speed - (s1.Brake + x232)))) - s6.Speed) + s1.Roll) + (Int.tdiv (s6.Speed * s6.Speed) s1.Drag)) + x232)).bind fun _ =>
  if 0 < (((((max (min (min (min x10 x165) (s6.Speed + x255)) s1.Top) (max 0 (s6.Speed - (s1.Brake + x232)))) - s6.Speed) + s1.Roll) + (Int.tdiv (s6.Speed * s6.Speed) s1.Drag)) + x232) then (
  (chk (s1.Mass * (((((max (min (min (min x10 x165) (s6.Speed + x255)) s1.Top) (max 0 (s6.Speed - (s1.Brake + x232)))) - s6.Speed) + s1.Roll) + (Int.tdiv (s6.Speed * s6.Speed) s1.Drag)) + x232))).bind fun _ =>
  (chk ((s6.At + (Int.tdiv ((s6.Speed + (max (min (min (min x10 x165) (s6.Speed + x255)) s1.Top) (max 0 (s6.Speed - (s1.Brake + x232))))) + 1) 2)) - s6.At)).bind fun _ =>
  (chk ((s1.Mass * (((((max (min (min (min x10 x165) (s6.Speed + x255)) s1.Top) (max 0 (s6.Speed - (s1.Brake + x232)))) - s6.Speed) + s1.Roll) + (Int.tdiv (s6.Speed * s6.Speed) s1.Drag)) + x232)) * ((s6.At + (Int.tdiv ((s6.Speed + (max (min (min (min x10 x165) (s6.Speed + x255)) s1.Top) (max 0 (s6.Speed - (s1.Brake + x232))))) + 1) 2)) - s6.At))).bind fun _ =>
  (chk (s6.Work + ((s1.Mass * (((((max (min (min (min x10 x165) (s6.Speed + x255)) s1.Top) (max 0 (s6.Speed - (s1.Brake + x232)))) - s6.Speed) + s1.Roll) + (Int.tdiv (s6.Speed * s6.Speed) s1.Drag)) + x232)) * ((s6.At + (Int.tdiv ((s6.Speed + (max (min (min (min x10 x165) (s6.Speed + x255)) s1.Top) (max 0 (s6.Speed - (s1.Brake + x232))))) + 1) 2)) - s6.At)))).bind fun _ =>
  some (s6.Work + ((s1.Mass * (((((max (min (min (min x10 x165) (s6.Speed + x255)) s1.Top) (max 0 (s6.Speed - (s1.Brake + x232)))) - s6.Speed) + s1.Roll) + (Int.tdiv (s6.Speed * s6.Speed) s1.Drag)) + x232)) * ((s6.At + (Int.tdiv ((s6.Speed + (max (min (min (min x10 x165) (s6.Speed + x255)) s1.Top) (max 0 (s6.Speed - (s1.Brake + x232))))) + 1) 2)) - s6.At))))
  else (
  some s6.Work)).bind (fun x288 =>
  some (s6.At + (Int.tdiv ((s6.Speed + (max (min (min (min x10 x165) (s6.Speed + x255)) s1.Top) (max 0 (s6.Speed - (s1.Brake + x232))))) + 1) 2), max (min (min (min x10 x165) (s6.Speed + x255)) s1.Top) (max 0 (s6.Speed - (s1.Brake + x232))), x288, 0))))))))

/-- fishplate/fishkeep1.GuardSeconds -/
noncomputable def mFishkeep1GuardSeconds (s1 : ApiStock) (l5 : (List ApiPiece)) (s6 : ApiState) (x7 : Int) : Option (Bool) :=
  (mFishkeep1AwakeGuard).bind fun x39 =>
  if x39 = true then (
  (mRunSecond s1 l5 s6 x7).bind (unc4 fun x42 x43 x44 x45 =>
  if x45 ≠ 0 then (
  some true)
  else (
  (mGuardNext s1 l5 s6 s6.At s6.At x7 6000).bind (unc4 fun x51 x52 x53 x54 =>
  (if x54 = 0 then (
  some (decide (x42 = x51 ∧ x43 = x52 ∧ x44 = x53)))
  else (
  some false)).bind (fun x62 =>
  some x62)))))
  else (
  some false)

/-- fishplate/guard.Span -/
noncomputable def mGuardSpan (x1 : Int) (x2 : Int) (x3 : Bool) : Option (Int × Int × Int) :=
  ((mGuardWithin x1 0 20000000).bind fun x38 =>
  if x38 = true then (
  (mGuardWithin x2 0 20000000).bind fun x41 =>
  some (!x41))
  else (
  some true)).bind (fun x36 =>
  if x36 = true then (
  some (0, 0, 2))
  else (
  (chk (x1 + x2)).bind fun _ =>
  if x3 = true then (
  (ne0 20).bind fun _ =>
  (chk (Int.tdiv x2 20)).bind fun _ =>
  (chk (200 + (Int.tdiv x2 20))).bind fun _ =>
  (chk ((x1 + x2) - (200 + (Int.tdiv x2 20)))).bind fun _ =>
  (chk ((x1 + x2) + (200 + (Int.tdiv x2 20)))).bind fun _ =>
  some (max x1 ((x1 + x2) - (200 + (Int.tdiv x2 20))), (x1 + x2) + (200 + (Int.tdiv x2 20)), 0))
  else (
  some (x1 + x2, x1 + x2, 0))))

noncomputable def mFishkeep1LimitsKept_L108 (l5 : (List ApiPiece)) (s1 : ApiStock) (s6 : ApiState) (s7 : ApiState) (k168 : Nat) : (Int) → Option ((Int) ⊕ (Bool)) := fun x167 =>
  (idx l5 (k168 : Int)).bind fun x172 =>
  (if x167 < s7.At then (
  (chk (x167 + x172.Length)).bind fun _ =>
  (chk (100 * s1.Length)).bind fun _ =>
  (chk (s6.At - (100 * s1.Length))).bind fun _ =>
  if (s6.At - (100 * s1.Length)) < (x167 + x172.Length) then (
  some (decide (x172.Speed < s7.Speed)))
  else (
  some false))
  else (
  some false)).bind (fun x190 =>
  if x190 = true then (
  some (.inr false))
  else (
  (chk (x167 + x172.Length)).bind fun _ =>
  some (.inl (x167 + x172.Length))))

/-- fishplate/fishkeep1.limitsKept -/
noncomputable def mFishkeep1LimitsKept (s1 : ApiStock) (l5 : (List ApiPiece)) (s6 : ApiState) (s7 : ApiState) : Option (Bool) :=
  (forM (mFishkeep1LimitsKept_L108 l5 s1 s6 s7) l5.length 0 0).bind fun t => Sum.elim (fun _ =>
  some true) (fun q => some q) t

noncomputable def mFishkeep1GuardStops_L630 (l5 : (List ApiPiece)) (s1 : ApiStock) (l615 : (List Fishkeep1Ride)) (x599 : Int) (k980 : Nat) : (Int × Int × Int × Int × Int) → Option ((Int × Int × Int × Int × Int) ⊕ (Bool)) := unc5 fun x975 x976 x977 x978 x979 =>
  (idx l615 (k980 : Int)).bind fun x984 =>
  (if x978 = 0 then (
  some x977)
  else (
  some x976)).bind (fun x998 =>
  (chk (x977 - x998)).bind fun _ =>
  (mGuardSpan x998 (x977 - x998) true).bind (unc3 fun x1002 x1003 x1004 =>
  (if x1004 ≠ 0 then (
  some true)
  else (
  if x984.Err < (-1000) then (
  some true)
  else (
  some (decide (1000 < x984.Err))))).bind (fun x1010 =>
  if x1010 = true then (
  some (.inr true))
  else (
  (chk (x1003 - x1002)).bind fun _ =>
  (ne0 2).bind fun _ =>
  (chk (Int.tdiv (x1003 - x1002) 2)).bind fun _ =>
  (chk (1000 - x984.Err)).bind fun _ =>
  (chk ((Int.tdiv (x1003 - x1002) 2) * (1000 - x984.Err))).bind fun _ =>
  (ne0 1000).bind fun _ =>
  (chk (Int.tdiv ((Int.tdiv (x1003 - x1002) 2) * (1000 - x984.Err)) 1000)).bind fun _ =>
  (chk (x977 - (Int.tdiv ((Int.tdiv (x1003 - x1002) 2) * (1000 - x984.Err)) 1000))).bind fun _ =>
  (chk (1000 + x984.Err)).bind fun _ =>
  (chk ((Int.tdiv (x1003 - x1002) 2) * (1000 + x984.Err))).bind fun _ =>
  (ne0 1000).bind fun _ =>
  (chk (Int.tdiv ((Int.tdiv (x1003 - x1002) 2) * (1000 + x984.Err)) 1000)).bind fun _ =>
  (chk (x977 + (Int.tdiv ((Int.tdiv (x1003 - x1002) 2) * (1000 + x984.Err)) 1000))).bind fun _ =>
  (mRunStop s1 x978).bind (unc2 fun x1039 _ =>
  (((chk ((min (x977 + (Int.tdiv ((Int.tdiv (x1003 - x1002) 2) * (1000 + x984.Err)) 1000)) x599) + x1039)).bind fun _ =>
  if ((min (x977 + (Int.tdiv ((Int.tdiv (x1003 - x1002) 2) * (1000 + x984.Err)) 1000)) x599) + x1039) ≤ x984.End then (
  some (decide (x984.End ≤ x599)))
  else (
  some false)).bind (fun x1059 =>
  if x1059 = true then (
  some x984.End)
  else (
  some x975))).bind (fun x1053 =>
  (if x984.Demand < 0 then (
  some true)
  else (
  some (decide (6000 < x984.Demand)))).bind (fun x1067 =>
  if x1067 = true then (
  some (.inr true))
  else (
  (mGuardNext s1 l5 (⟨x977, x978, x979⟩ : ApiState) (max (x977 - (Int.tdiv ((Int.tdiv (x1003 - x1002) 2) * (1000 - x984.Err)) 1000)) 0) (min (x977 + (Int.tdiv ((Int.tdiv (x1003 - x1002) 2) * (1000 + x984.Err)) 1000)) x599) x1053 x984.Demand).bind (unc4 fun x1072 x1073 x1074 x1075 =>
  (if x1075 ≠ 0 then (
  some true)
  else (
  if x1053 < x1072 then (
  some true)
  else (
  if x1072 < x977 then (
  some true)
  else (
  if (max x984.Demand x978) < x1073 then (
  some true)
  else (
  (mFishkeep1LimitsKept s1 l5 (⟨x977, x978, x979⟩ : ApiState) (⟨x1072, x1073, x1074⟩ : ApiState)).bind fun x1094 =>
  some (!x1094)))))).bind (fun x1088 =>
  if x1088 = true then (
  some (.inr false))
  else (
  some (.inl (x1053, x998, x1072, x1073, x1074)))))))))))))

noncomputable def mFishkeep1GuardStops_L570 (l5 : (List ApiPiece)) (k600 : Nat) : (Int) → Option (Int) := fun x599 =>
  (idx l5 (k600 : Int)).bind fun x603 =>
  (chk (x599 + x603.Length)).bind fun _ =>
  some (x599 + x603.Length)

/-- fishplate/fishkeep1.GuardStops -/
noncomputable def mFishkeep1GuardStops (s1 : ApiStock) (l5 : (List ApiPiece)) (x6 : Int) (x7 : Int) (l11 : (List Fishkeep1Ride)) : Option (Bool) :=
  (mFishkeep1AwakeGuard).bind fun x557 =>
  if x557 = true then (
  (mRunSecond s1 l5 (⟨x6, 0, 0⟩ : ApiState) x7).bind (unc4 fun _ _ _ x564 =>
  if x564 ≠ 0 then (
  some true)
  else (
  (forS (mFishkeep1GuardStops_L570 l5) l5.length 0 0).bind (fun x599 =>
  (cutS l11 0 (min (l11.length : Int) 400)).bind fun l615 =>
  (forM (mFishkeep1GuardStops_L630 l5 s1 l615 x599) l615.length 0 (x7, x6, x6, 0, 0)).bind fun t => Sum.elim (unc5 fun _ _ _ _ _ =>
  some true) (fun q => some q) t))))
  else (
  some false)

end Go.Proofs.YtljcafilceachaaDoor
